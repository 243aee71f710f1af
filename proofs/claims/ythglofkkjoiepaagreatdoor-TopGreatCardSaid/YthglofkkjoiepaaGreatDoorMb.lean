/- Texts of the proofs of seat YthglofkkjoiepaaGreatDoor, joined: Compile, CSound, Fn, Defer, Ann, Mem, Step, Slice, View, IMap, Own, OwnS, OwnP, OwnO, KMap, OwnM, OwnD, OwnX, OwnF, Build, Graph, Rows. They have no conditions of their own. -/
import Derived.Test.YthglofkkjoiepaaGreatDoorMa
import Derived.RangeFuncLeaves
import Derived.RecoverIn
import Derived.Laws.Append
import Derived.WalkKit
import Derived.ProofKit
import Derived.Deep.Slices
set_option linter.unusedVariables false
set_option linter.unusedSimpArgs false
set_option linter.unusedSectionVars false

namespace Go.Mh
open Go
def vt(ops:Array Oper)(bE:List Nat)(x:Oper)(i a:Nat):List Oper->Nat->Bool
 | [],_=>true
 |y::r,j=>(Nat.beq i j||(Nat.testBit a j||(Nat.testBit (bE.getD j 0) i||x.apart ops y)))&&vt ops bE x i a r (j+1)
def vu(ops:Array Oper)(bE:List Nat):List Oper->Nat->Bool
 | [],_=>true
 |x::r,i=>(match oy x.op with
  |true=>vt ops bE x i (bE.getD i 0) ops.toList 0
  |false=>true)&&vu ops bE r (i+1)
def qR:List Oper->Bool
 | []=>true
 |o::r=>mN o.op&&qR r
def Ju(ops:Array Oper)(bE:List Nat):Bool:=oC bE ops.toList 0&&vu ops bE ops.toList 0
section
variable{P:Program}{ops:Array Oper}{bE:List Nat}
theorem Jv{x:Oper}{i a:Nat}:∀(l:List Oper)(k:Nat),vt ops bE x i a l k=true->∀(j:Nat)(y:Oper),l[j]? =some y->
  i=k+j\/a.testBit (k+j)=true\/(bE.getD (k+j) 0).testBit i=true\/x.apart ops y=true
 | [],_,_,j,y,hy=>by simp at hy
 | z::l,k,h,j,y,hy=>by
  simp only[vt,Bool.and_eq_true,Bool.or_eq_true]at h;cases j with
  |zero=>
   simp only[List.getElem?_cons_zero,Option.some.injEq]at hy;subst hy;rcases h.1 with h|h|h|h
   ·exact .inl (Nat.eq_of_beq_eq_true h)
   ·exact .inr (.inl h)
   ·exact .inr (.inr (.inl h))
   ·exact .inr (.inr (.inr h))
  |succ j=>
   have :=Jv l (k+1) h.2 j y (by simpa using hy);rw[show k+(j+1)=k+1+j by omega];exact this
theorem Jw:∀(l:List Oper)(k:Nat),vu ops bE l k=true->∀(i:Nat)(x:Oper),l[i]? =some x->oy x.op=true->
  vt ops bE x (k+i) (bE.getD (k+i) 0) ops.toList 0=true
 | [],_,_,i,x,hx=>by simp at hx
 | z::l,k,h,i,x,hx=>by
  intro hq;simp only[vu,Bool.and_eq_true]at h;cases i with
  |zero=>
   simp only[List.getElem?_cons_zero,Option.some.injEq]at hx;subst hx;have :=h.1;rw[hq]at this;exact this
  |succ i=>
   have :=Jw l (k+1) h.2 i x (by simpa using hx) hq;rw[show k+(i+1)=k+1+i by omega];exact this
theorem YI(h:vu ops bE ops.toList 0=true):CG ops bE:=by
 intro c i hc hi hne hq h1 h2;unfold quietAt at hq;split at hq
 ·rename_i x hx;obtain⟨y,hy⟩:∃y,ops[i]? =some y:=⟨_,Array.getElem?_eq_getElem hi⟩;have :=Jv _ _ (Jw _ _ h c x (by simpa using hx) hq) i y (by simpa using hy);simp only[Nat.zero_add]at this;unfold qQ;rw[hx,hy];dsimp only;rcases this with h|h|h|h
  ·exact(hne h).elim
  ·unfold jm at h2;rw[h2]at h;cases h
  ·unfold jm at h1;rw[h1]at h;cases h
  ·exact h
 ·cases hq
theorem Jx:∀{l:List Oper},qR l=true->∀(i:Nat)(o:Oper),l[i]? =some o->mN o.op=true
 | [],_,i,o,ho=>by simp at ho
 |x::l,h,i,o,ho=>by
  simp only[qR,Bool.and_eq_true]at h;cases i with
  |zero=>simp only[List.getElem?_cons_zero,Option.some.injEq]at ho;subst ho;exact h.1
  |succ i=>exact Jx h.2 i o (by simpa using ho)
theorem CO(h:qR ops.toList=true):pP ops:=λi o ho=>Jx h i o (by simpa using ho)
end
def bK{σ:Type}(B:σ->aa->(σ->aa->Prop)->Prop)(x:σ)(h:aa):Prop:=
 ∀Z:σ->aa->Prop,(∀x h,B x h Z->Z x h)->Z x h
def bw:List Nat->Type
 | []=>Unit
 |_::r=>Value×bw r
def oF:(l:List Nat)->bw l->bM->bM
 | [],_,e=>e
 |s::r,x,e=>(s,x.1)::oF r x.2 e
def oG(e:bM):(l:List Nat)->(bw l->Prop)->Prop
 | [],K=>K ()
 |s::r,K=>(match look e s with
  |some v=>oG e r λx=>K (v,x)
  |none=>False)
def kZ(s:Nat):List Nat->Bool
 | []=>false
 |x::r=>match Nat.beq x s with
  |true=>true
  |false=>kZ s r
def lZ(drop:List Nat):bM->bM
 | []=>[]
 |x::r=>match kZ x.1 drop with
  |true=>lZ drop r
  |false=>x::lZ drop r
def sS:List Oper->List Nat
 | []=>[]
 |o::r=>match o.dst with
  |some d=>d::sS r
  |none=>sS r
def writes:Code->List Nat
 | .region _ ops _=>sS ops.toList
 | .seq a b=>writes a++writes b
 | .cond _ a b=>writes a++writes b
 | .block _ a=>writes a
 | .loop a=>writes a
 | .scope a=>writes a
 |_=>[]
def iV:Code->Bool
 | .seq a b=>iV a&&iV b
 | .cond _ a b=>iV a&&iV b
 | .block _ a=>iV a
 | .loop a=>iV a
 | .scope a=>iV a
 | .rangeFunc .. =>false
 |_=>true
inductive Ann where
 |leaf
 |one (a:Ann)
 |two (a b:Ann)
 |cut (slots:List Nat) (a b:Ann)
 |loop (slots:List Nat) (a:Ann)
def lo(L:Loop)(st:LoopState)(p:Option Code):Obj:=.loop {L with state:=st,pending:=p}
def dm(l:Nat):Value:=.func (.yield l) #[] #[]
def qS:List (Nat×(aa->Prop))->Nat->aa->Prop
 | [],_,_=>False
 |(i,K)::r,id,h=>match Nat.beq i id with
  |true=>K h
  |false=>qS r id h
def YJ(a b:aa->Prop)(c:List (Nat×(aa->Prop)))(h:aa):Option Code->Prop
 |none=>a h
 |some .ret=>b h
 |some (.exit id)=>qS c id h
 |some _=>False
def k7:(l:List Nat)->bw l->List Value
 | [],_=>[]
 |_::r,x=>x.1::k7 r x.2
def vv(l:Nat)(L:Loop)(K:KT)(ex:Exit)(h:aa):Prop:=
 ∃p,h[l]? =some (lo L .busy p)/\match ex with
  | .normal=>K (.bool true) (h.setIfInBounds l (lo L .ready none))
  | .ret=>K (.bool false) (h.setIfInBounds l (lo L .done (some .ret)))
  | .exit id=>K (.bool false) (h.setIfInBounds l (lo L .done (some (.exit id))))
  |_=>False
def sU(P:Program)(v:Value)(args:Array Value)(h:aa)(K:KT):Prop:=
 match v with
 | .func (.func f) first captured=>aE P f (first ++args++captured) h K
 |_=>False
def gY(l:Nat)(L:Loop)(h:aa)(K:aa->Prop):Prop:=
 ∃p,h[l]? =some (lo L .ready p)/\K (h.setIfInBounds l (lo L .busy p))
def gd(P:Program)(fv:Value)(ps:List Nat)(l:Nat)(h0:aa)(B:Loop->bw ps->aa->(Exit->aa->Prop)->Prop)(a b:aa->Prop)(c:List (Nat×(aa->Prop))):Prop:=
 ∀ L:Loop,(∀(x:bw ps)(h:aa)(R:KT)(st:LoopState)(p:Option Code),h[l]? =some (lo L st p)->
   B L x h (vv l L R)->aS P (dm l) (k7 ps x).toArray h R)->
  sU P fv #[dm l] (h0.push (lo L .ready none)) λ_ h'=>∃st p,st≠ .busy/\h'[l]? =some (lo L st p)/\YJ a b c (h'.setIfInBounds l (lo L .exhausted p)) p
def CP(id:Nat):List Nat->List Nat
 | []=>[]
 |x::r=>match Nat.beq x id with
  |true=>CP id r
  |false=>x::CP id r
def qT:Code->List Nat
 | .exit id=>[id]
 | .seq a b=>qT a++qT b
 | .cond _ a b=>qT a++qT b
 | .block id a=>CP id (qT a)
 | .loop a=>qT a
 |_=>[]
def y5(n:Nat):List Nat->Bool
 | []=>true
 |x::r=>Nat.blt x n&&y5 n r
def vz:(l:List Nat)->bw l->bM->bM
 | [],_,e=>e
 |s::r,x,e=>vz r x.2 ((s,x.1)::e)
def eW{σ:Type}(A:(σ->aa->Prop)->Prop)(B:σ->aa->Prop):Prop:=A B
def compile (P:Program) (n:Nat) (ro:Bool):Code->Ann->bM->List Nat->aa->(Exit->bM->List Nat->aa->Prop)->Prop
 | .skip,_,e,m,h,K=>K .normal e m h
 | .label _,_,e,m,h,K=>K .normal e m h
 | .ret,_,e,m,h,K=>K .ret e m h
 | .exit id,_,e,m,h,K=>K (.exit id) e m h
 | .seq a b,.two x y,e,m,h,K=>compile P n ro a x e m h λex e' m' h'=>(match ex with
  | .normal=>compile P n ro b y e' m' h' K
  |ex=>K ex e' m' h')
 | .seq a b,.cut slots x y,e,m,h,K=>(match iV a with
  |true=>eW (λJ=>compile P n ro a x e m h λex e' m' h'=>(match ex with
   | .normal=>oG e' slots λv=>J v h'
   |ex=>K ex e' m' h')) (λv h'=>compile P n ro b y (oF slots v (lZ (slots++writes a) e)) m h' K)
  |false=>False)
 | .cond c a b,.two x y,e,m,h,K=>(match oD e c with
  |true=>az (ev e c) (compile P n ro a x e m h K) (compile P n ro b y e m h K)
  |false=>False)
 | .block id a,.one x,e,m,h,K=>compile P n ro a x e m h fun ex e' m' h'=>(match ex with
  | .exit id'=>(match Nat.beq id' id with
   |true=>K .normal e' m' h'
   |false=>K (.exit id') e' m' h')
  |ex=>K ex e' m' h')
 | .scope a,.one x,e,m,h,K=>compile P n ro a x e m h λex e' m' h'=>(match ex with
  | .goto _=>False
  |ex=>K ex e' m' h')
 | .loop a,.loop slots x,e,m,h,K=>(match iV a with
  |true=>oG e slots λx0=>bK (λv h Z=>compile P n ro a x (oF slots v (lZ (slots++writes a) e)) m h λex e' m' h'=>(match ex with
   | .normal=>oG e' slots λv'=>Z v' h'
   |ex=>K ex e' m' h')) x0 h
  |false=>oG e slots λx0=>bK (λ(v:List Nat×bw slots) h Z=>compile P n ro a x (oF slots v.2 (lZ (slots++writes a) e)) v.1 h λex e' m' h'=>(match ex with
   | .normal=>oG e' slots λv'=>Z (m',v') h'
   |ex=>K ex e' m' h')) (m,x0) h)
 | .region _ ops draw,_,e,m,h,K=>(match qR ops.toList with
  | true=>(match draw with
   |false=>CM P n ops ops.toList e h λe' h'=>K .normal e' m h'
   |true=>(match Ju ops (u9 ops.toList [])with
    |true=>mP P n ops (u9 ops.toList []) ops.size 0 [] e h λe' h'=>K .normal e' m h'
    |false=>False))
  |false=>False)
 | .rangeFunc f params assign body,.two x y,e,m,h,K=>(match oD e f with
  | true=>(match ro with
   | false=>(match y5 n params.toList with
    | true=>gd P (ev e f) params.toList (h.size+1) (h.push (.deferred (some [])))
     (λL v h' R=>compile P n true assign x (vz params.toList v e) [] h' λex e1 m1 h1=>(match ex with
      | .normal=>gY (h.size+1) L h1 λh2=>compile P n true body y e1 m1 h2 λex' _ _ h3=>R ex' h3
      |_=>False)) (λh'=>K .normal e (h.size::m) h') (λh'=>K .ret e (h.size::m) h') ((qT body).map λid=>(id,λh'=>K (.exit id) e (h.size::m) h'))
    |false=>False)
   |true=>False)
  |false=>False)
 |_,_,_,_,_,_=>False
open Go
def marks(m:List Nat):List Deferred:=m.map λD=>{target:=.collected D,args:= #[]}
section
variable{P:Program}
theorem mQ{s:Nat}:∀{a b:List Nat},kZ s (a++b)=(kZ s a||kZ s b)
 | [],b=>by simp[kZ]
 |x::a,b=>by
  simp only[List.cons_append,kZ];split
  ·rfl
  ·exact mQ
theorem CQ{s:Nat}:∀(l:List Oper),kZ s (sS l)=false->∀o∈l,o.dst≠some s
 | [],_,o,ho=>by cases ho
 | x ::l,h,o,ho=>by
  have hx:x.dst≠some s/\kZ s (sS l)=false:=by
   simp only[sS]at h;split at h
   ·rename_i d hd;simp only[kZ]at h;split at h
    ·cases h
    ·rename_i hb;refine⟨λe=> ?_,h⟩;rw[hd]at e;cases e;rw[Nat.beq_refl]at hb;cases hb
   ·rename_i hd;exact⟨(λe=>by rw[hd]at e;cases e),h⟩
  rcases List.mem_cons.1 ho with rfl|ho
  ·exact hx.1
  ·exact CQ l hx.2 o ho
section
variable{b:Frame}{a:Act}{k:List Item}{cs:List Frame}{w:World}{Q:Exit->Act->World->Prop}{F:World->Prop}{n:Nat}
theorem sV{c:Code}:step P (lone (b.atR a (.code (.scope c)::k)) cs w)=.next (lone (b.atR a (.code c:: .inScope c::k)) cs w):=
 step_lone_go (by simp[stepG,stepG.exec,Frame.atR])
theorem YK{c:Code}:step P (lone (b.atR a (.inScope c::k)) cs w)=.next (lone (b.atR a k) cs w):=
 step_lone_go (by simp[stepG,stepG.exec,Frame.atR])
end
def YL(Q:Exit->Act->World->Prop):Exit->Act->World->Prop
 | .goto _,_,_=>False
 |ex,a,w=>Q ex a w
def sW(c:Code)(t t':Array Value):Prop:=∀s,kZ s (writes c)=false->t'[s]? =t[s]?
theorem CR{drop:List Nat}:∀{e:bM}{s:Nat}{v:Value},look (lZ drop e) s=some v->kZ s drop=false/\look e s=some v
 | [],s,v,h=>by cases h
 | (d,u)::e,s,v,h=>by
  simp only[lZ]at h;split at h
  ·rename_i hd;obtain⟨h1,h2⟩:=CR h;refine⟨h1,?_⟩;simp only[look];split
   ·rename_i hb;have :=Nat.eq_of_beq_eq_true hb;subst this;rw[hd]at h1;cases h1
   ·exact h2
  ·rename_i hd;simp only[look]at h ⊢;split at h
   ·rename_i hb;have :=Nat.eq_of_beq_eq_true hb;subst this;exact⟨hd,h⟩
   ·exact CR h
theorem sX{t:Array Value}{e':bM}(hr:Rel e' t):∀{slots:List Nat}{F:bw slots->Prop},oG e' slots F->
  ∃v,F v/\∀e,Rel e t->Rel (oF slots v e) t:=by
 intro slots
 induction slots with
 |nil=>intro F h;exact⟨(),h,λe he=>he⟩
 | cons s r ih=>
  intro F h;simp only[oG]at h;split at h
  ·rename_i v hv;obtain⟨x,hx,hb⟩:=ih h;refine⟨(v,x),hx,λe he=> ?_⟩;intro s' u hu;simp only[oF,look]at hu;split at hu
   ·rename_i c;have :=Nat.eq_of_beq_eq_true c;subst this;simp only[Option.some.injEq]at hu;subst hu;exact hr s v hv
   ·exact hb e he s' u hu
  ·exact h.elim
theorem qU{drop:List Nat}{e:bM}{t t':Array Value}(hr:Rel e t)(hf:∀s,kZ s drop=false->t'[s]? =t[s]?):Rel (lZ drop e) t':=λs v h=>by
 obtain⟨h1,h2⟩:=CR h;rw[hf s h1];exact hr s v h2
def vB(ro:Option Nat)(P:Program)(c:Code)(Q:Exit->Act->World->Prop)(a:Act)(w:World):Prop:=
 ∀(b:Frame)(k:List Item)(cs:List Frame),b.roundOf=(WF ro).round->(WF ro).fn b.fn->(WF ro).room (cs.length+1+0)->
  ∃e a' w',Q e a' w'/\ArrivesIn (Machine.fenced P (WF ro)) P (lone (b.atR a (.code c:: .inLoop c::k)) cs w) b k cs e a' w'
theorem YM{ro:Option Nat}{c:Code}{Q:Exit->Act->World->Prop}{a:Act}{w:World}(h:vB ro P c Q a w):(Code.loop c).wpIn (WF ro) 0 P Q a w:=by
 intro b k cs hro hb hr;obtain⟨e,a',w',hq,d⟩:=h b k cs hro hb hr;exact⟨e,a',w',hq,.of_steps (.one (fenced_calm hb hr rfl) stepR_loop) d⟩
theorem Jy{ro:Option Nat}{c:Code}{Q:Exit->Act->World->Prop}{a:Act}{w:World}
  (h:c.wpIn (WF ro) 0 P (Exit.then (vB ro P c Q) Q) a w):vB ro P c Q a w:=by
 intro b k cs hro hb hr;obtain⟨e,a₁,w₁,hq,d⟩:=h b (.inLoop c::k) cs hro hb hr;cases e with
 |normal=>
  obtain⟨e₂,a₂,w₂,f,g⟩:=hq b k cs hro hb hr;exact⟨e₂,a₂,w₂,f,.of_steps (StepsIn.trans d (.one (fenced_calm hb hr rfl) stepR_inLoop)) g⟩
 |exit id=>exact⟨_,a₁,w₁,hq,.pass (x:=.inLoop c) rfl (λ_ _=>.inl (by simp)) d⟩
 |goto l=>exact⟨_,a₁,w₁,hq,.pass (x:=.inLoop c) rfl (λ_ _=>.inl (by simp)) d⟩
 |ret=>exact⟨_,a₁,w₁,hq,.pass (x:=.inLoop c) rfl (λ_ _=>.inl (by simp)) d⟩
 |panic ch=>exact⟨_,a₁,w₁,hq,.pass (x:=.inLoop c) rfl (λ_ _=>.inl (by simp)) d⟩
 |outgrown=>exact⟨_,a₁,w₁,hq,.pass (x:=.inLoop c) rfl (λ_ _=>.inl (by simp)) d⟩
theorem Jz{n:Nat}:∀(ps:List Nat)(x:bw ps){e:bM}{t:Array Value},Rel e t->t.size=n->y5 n ps=true->
  Rel (vz ps x e) ((ps.zip (k7 ps x)).foldl (λt(x:Nat×Value)=>t.setIfInBounds x.1 x.2) t)/\((ps.zip (k7 ps x)).foldl (λt(x:Nat×Value)=>t.setIfInBounds x.1 x.2) t).size=n
 | [],x,e,t,hr,hn,_=>⟨hr,hn⟩
 |s::ps,x,e,t,hr,hn,hl=>by
  simp only[y5,Bool.and_eq_true]at hl;have :=hr.put (dst:=some s) (v:=x.1) (by rw[hn];exact hl.1);simp only[vz,k7,List.zip_cons_cons,List.foldl_cons];exact Jz ps x.2 this (by simpa using hn) hl.2
theorem JA:∀(l:List Nat)(x:bw l),(k7 l x).length=l.length
 | [],_=>rfl
 |_::r,x=>by simp[k7,JA r x.2]
theorem JB{F:Nat->aa->Prop}:∀{l:List Nat}{id:Nat}{h:aa},qS (l.map λi=>(i,F i)) id h->F id h
 |i::l,id,h,hk=>by
  simp only[List.map_cons,qS]at hk;split at hk
  ·rename_i hb;have :=Nat.eq_of_beq_eq_true hb;subst this;exact hk
  ·exact JB hk
theorem CS{h:aa}{l:Nat}{L:Loop}(hl:h[l]? =some (.loop L)):aT P (Instr.getLoop l) h=some L:=by
 unfold Instr.getLoop;rw[aU (a:=.loop L) (by simp[getObj,aT,hl])];rfl
theorem CT{h:aa}{l:Nat}{L:Loop}{o:Obj}{K:Unit->aa->Prop}(hl:h[l]? =some (.loop L))(hk:K () (h.setIfInBounds l o)):wpS P (setObj l o) h K:=by
 simp[setObj,wpS,hl];exact hk
theorem YN{h:aa}{l:Nat}{L:Loop}{p:Option Code}{K:Unit->aa->Prop}(hl:h[l]? =some (lo L .ready p))(hk:K () (h.setIfInBounds l (lo L .busy p))):
  wpS P (Instr.beginRound l) h K:=by
 unfold Instr.beginRound;refine bQ (CS hl) ?_;refine gb (CT hl ?_);exact hk
theorem YO{h:aa}{l:Nat}{L:Loop}{p:Option Code}{jump:Option Code}{K:KT}(hl:h[l]? =some (lo L .busy p))
  (hk:K (.bool jump.isNone) (h.setIfInBounds l (lo L (if jump.isNone then .ready else .done) jump))):wpS P (Instr.endRound l jump) h K:=by
 unfold Instr.endRound;refine bQ (CS hl) ?_;refine gb (CT hl ?_);exact hk
theorem YP{h:aa}{l:Nat}{L:Loop}{st:LoopState}{p:Option Code}{K:Option Code->aa->Prop}(hl:h[l]? =some (lo L st p))(hs:st≠ .busy)
  (hk:K p (h.setIfInBounds l (lo L .exhausted p))):wpS P (Instr.endLoop l) h K:=by
 unfold Instr.endLoop;refine bQ (CS hl) ?_;have :((({L with state:=st,pending:=p}:Loop).state== .busy)=true)=False:=by
  simp[hs]
 rw[if_neg (by rw[this];exact id)];refine gb (CT hl ?_);exact hk
theorem YQ{F:Fence}{n:Nat}{c:Code}{a:Act}{w:World}{Q:Exit->Act->World->Prop}(h:c.wpIn F n P (YL Q) a w):(Code.scope c).wpIn F n P Q a w:=by
 intro b k cs hro hb hr;have h0:(lone (b.atR a (.code (.scope c)::k)) cs w).fenced P F:=fenced_calm hb hr rfl;obtain⟨e,a₁,w₁,hq,d⟩:=h b (.inScope c::k) cs hro hb hr;cases e with
 |normal=>exact⟨.normal,a₁,w₁,hq,.head h0 sV (StepsIn.trans d (.one (fenced_calm hb hr rfl) YK))⟩
 | exit id'=>
  have hx:exitTo id' (.inScope c::k)=exitTo id' k:=by simp[exitTo]
  exact⟨.exit id',a₁,w₁,hq,λk' hk=>.head h0 sV (d.1 k' (by rw[hx];exact hk)),
   λhr' hk=>let⟨k₁,h1,h2⟩:=d.2 hr' (by rw[hx];exact hk);⟨k₁,h1,.head h0 sV h2⟩⟩
 |goto l=>exact hq.elim
 |ret=>exact⟨_,a₁,w₁,hq,.of_steps (.one h0 sV) d⟩
 |panic ch=>exact⟨_,a₁,w₁,hq,.of_steps (.one h0 sV) d⟩
 |outgrown=>exact⟨_,a₁,w₁,hq,.of_steps (.one h0 sV) d⟩
theorem jH {n:Nat}:∀(c:Code)(bA:Ann)(ro:Option Nat)(e:bM)(m:List Nat)(h:aa)(K:Exit->bM->List Nat->aa->Prop),
  compile P n ro.isSome c bA e m h K->(P.follows .mixedOrders=true)->∀(ds:List Deferred)(a:Act)(w:World)(Q:Exit->Act->World->Prop),Rel e a.tmps->a.tmps.size=n->a.defers=marks m++ds->w.heap=h->
  (∀ex e' m' a' w',Rel e' a'.tmps->a'.tmps.size=n->a'.defers=marks m'++ds->cU w w'->(iV c=true->m'=m)->sW c a.tmps a'.tmps->K ex e' m' w'.heap->Q ex a' w')->
  c.wpIn (WF ro) 0 P Q a w:=by
 intro c
 induction c with
 |skip=>intro bA ro e m h K hc hf ds a w Q hr hn hd hw hq;subst hw;exact wpIn_skip (hq _ _ _ _ _ hr hn hd (.refl _) (λ_=>rfl) (λ_ _=>rfl) hc)
 |label l=>intro bA ro e m h K hc hf ds a w Q hr hn hd hw hq;subst hw;exact wpIn_label (hq _ _ _ _ _ hr hn hd (.refl _) (λ_=>rfl) (λ_ _=>rfl) hc)
 |ret=>intro bA ro e m h K hc hf ds a w Q hr hn hd hw hq;subst hw;exact wpIn_ret (hq _ _ _ _ _ hr hn hd (.refl _) (λ_=>rfl) (λ_ _=>rfl) hc)
 |exit id=>intro bA ro e m h K hc hf ds a w Q hr hn hd hw hq;subst hw;exact wpIn_exit (hq _ _ _ _ _ hr hn hd (.refl _) (λ_=>rfl) (λ_ _=>rfl) hc)
 |goto l=>intro bA ro e m h K hc;exact hc.elim
 | scope x ih=>
  intro bA ro e m h K hc hf ds a w Q hr hn hd hw hq;cases bA<;>try exact hc.elim
  rename_i d;refine YQ (ih d ro e m h _ hc hf ds a w _ hr hn hd hw ?_);intro ex e' m' a' w' hr' hn' hd' hs' q hfr hk;have post:∀ex',K ex' e' m' w'.heap->Q ex' a' w':=λex' hk'=>
   hq ex' e' m' a' w' hr' hn' hd' hs' (λh=>q h) (λs hs=>hfr s hs) hk'
  cases ex with
  |exit id'=>exact post _ hk
  |normal=>exact post _ hk
  |goto l=>exact hk.elim
  |ret=>exact post _ hk
  |panic ch=>exact post _ hk
  |outgrown=>exact post _ hk
 |refuse why=>intro bA ro e m h K hc;exact hc.elim
 | seq x y E G=>
  intro bA ro e m h K hc hf ds a w Q hr hn hd hw hq;cases bA<;>try exact hc.elim
  ·rename_i d A;refine wpIn_seq (E d ro e m h _ hc hf ds a w _ hr hn hd hw ?_);intro ex e' m' a' w' hr' hn' hd' hs' q hfr hk;have post:∀ex',K ex' e' m' w'.heap->(∀(h:ex'=.normal),False)->Q ex' a' w':=by
    intro ex' hk' _;refine hq ex' e' m' a' w' hr' hn' hd' hs' ?_ ?_ hk'
    ·intro h;simp only[iV,Bool.and_eq_true]at h;exact q h.1
    ·intro s hs;simp only[writes,mQ,Bool.or_eq_false_iff]at hs;exact hfr s hs.1
   cases ex with
   |normal=>
    refine G A ro e' m' w'.heap K hk hf ds a' w' Q hr' hn' hd' rfl ?_;intro I e2 m2 a2 w2 r hn2 hd2 hs2 B u hk2;refine hq I e2 m2 a2 w2 r hn2 hd2 (hs'.trans hs2) ?_ ?_ hk2
    ·intro h;simp only[iV,Bool.and_eq_true]at h;rw[B h.2,q h.1]
    ·intro s hs;simp only[writes,mQ,Bool.or_eq_false_iff]at hs;rw[u s hs.2,hfr s hs.1]
   |exit id=>exact post _ hk (by simp)
   |goto l=>exact post _ hk (by simp)
   |ret=>exact post _ hk (by simp)
   |panic ch=>exact post _ hk (by simp)
   |outgrown=>exact post _ hk (by simp)
  ·rename_i slots d A;simp only[compile]at hc;split at hc
   ·rename_i hno;refine wpIn_seq (E d ro e m h _ hc hf ds a w _ hr hn hd hw ?_);intro ex e' m' a' w' hr' hn' hd' hs' q hfr hk;have hm2:m'=m:=q hno;subst hm2;have post:∀ex',K ex' e' m' w'.heap->Q ex' a' w':=by
     intro ex' hk';refine hq ex' e' m' a' w' hr' hn' hd' hs' (λ_=>rfl) ?_ hk';intro s hs;simp only[writes,mQ,Bool.or_eq_false_iff]at hs;exact hfr s hs.1
    cases ex with
    | normal=>
     obtain⟨v,hB,C⟩:=sX hr' hk;refine G A ro _ m' w'.heap K hB hf ds a' w' Q (C _ (qU hr λs hs=> ?_)) hn' hd' rfl ?_
     ·rw[mQ,Bool.or_eq_false_iff]at hs;exact hfr s hs.2
     ·intro I e2 m2 a2 w2 r hn2 hd2 hs2 B u hk2;refine hq I e2 m2 a2 w2 r hn2 hd2 (hs'.trans hs2) ?_ ?_ hk2
      ·intro h;simp only[iV,Bool.and_eq_true]at h;exact B h.2
      ·intro s hs;simp only[writes,mQ,Bool.or_eq_false_iff]at hs;rw[u s hs.2,hfr s hs.1]
    |exit id=>exact post _ hk
    |goto l=>exact post _ hk
    |ret=>exact post _ hk
    |panic ch=>exact post _ hk
    |outgrown=>exact post _ hk
   ·exact hc.elim
 | cond c x y E G=>
  intro bA ro e m h K hc hf ds a w Q hr hn hd hw hq;cases bA<;>try exact hc.elim
  rename_i d A;simp only[compile]at hc;split at hc
  ·rename_i hk;have he:a.eval c=ev e c:=by rw[nH,hr.ev hk]
   unfold az at hc;split at hc
   ·rename_i hv;refine wpIn_cond_true (he.trans hv) (E d ro e m h K hc hf ds a w Q hr hn hd hw ?_);intro ex e' m' a' w' hr' hn' hd' hs' q hfr hk';refine hq ex e' m' a' w' hr' hn' hd' hs' ?_ ?_ hk'
    ·intro h;simp only[iV,Bool.and_eq_true]at h;exact q h.1
    ·intro s hs;simp only[writes,mQ,Bool.or_eq_false_iff]at hs;exact hfr s hs.1
   ·rename_i hv;refine wpIn_cond_false (he.trans hv) (G A ro e m h K hc hf ds a w Q hr hn hd hw ?_);intro ex e' m' a' w' hr' hn' hd' hs' q hfr hk';refine hq ex e' m' a' w' hr' hn' hd' hs' ?_ ?_ hk'
    ·intro h;simp only[iV,Bool.and_eq_true]at h;exact q h.2
    ·intro s hs;simp only[writes,mQ,Bool.or_eq_false_iff]at hs;exact hfr s hs.2
   ·exact hc.elim
  ·exact hc.elim
 | block id x ih=>
  intro bA ro e m h K hc hf ds a w Q hr hn hd hw hq;cases bA<;>try exact hc.elim
  rename_i d;refine wpIn_block (ih d ro e m h _ hc hf ds a w _ hr hn hd hw ?_);intro ex e' m' a' w' hr' hn' hd' hs' q hfr hk;have post:∀ex',K ex' e' m' w'.heap->Q ex' a' w':=λex' hk'=>
   hq ex' e' m' a' w' hr' hn' hd' hs' (λh=>q h) (λs hs=>hfr s hs) hk'
  cases ex with
  |exit id'=>
   dsimp only at hk;show if id'=id then Q .normal a' w' else Q (.exit id') a' w';split at hk
   ·rename_i hb;rw[if_pos (Nat.eq_of_beq_eq_true hb)];exact post _ hk
   ·rename_i hb;rw[if_neg (λh=>by subst h;simp at hb)];exact post _ hk
  |normal=>exact post _ hk
  |goto l=>exact post _ hk
  |ret=>exact post _ hk
  |panic ch=>exact post _ hk
  |outgrown=>exact post _ hk
 | region id ops draw=>
  intro bA ro e m h K hc hf ds a w Q hr hn hd hw hq;subst hw;simp only[compile]at hc;split at hc
  ·rename_i S;have hp:=CO S;have fin:∀{a':Act}{w':World},a'.defers=a.defers->cU w w'->(Fr ops a.tmps a'.tmps/\∃e',Rel e' a'.tmps/\K .normal e' m w'.heap)->Q .normal a' w':=by
    rintro a' w' hd' hs' ⟨hfr,e',hr',hk⟩;refine hq _ e' m a' w' hr' (hfr.1.trans hn) (hd'.trans hd) hs' (λ_=>rfl) ?_ hk;intro s hs;refine hfr.2 s λi hi=> ?_;unfold iI at hi;cases ho:ops[i]? with
    |none=>rw[ho]at hi;cases hi
    |some o=>
     rw[ho]at hi;exact CQ _ hs o (List.mem_of_getElem? (by simpa using ho)) hi
   split at hc
   ·refine wpIn_region ?_;have :=Jo (P:=P) (ops:=ops) ops.toList 0 (by simp) hr hn hc;rw[List.drop_zero]at this;exact Jn hp _ a w this λa' w' hd' hs' hk=>fin hd' hs' hk
   ·split at hc
    ·rename_i hok;simp only[Ju,Bool.and_eq_true]at hok;have hl:LR ops 0 (Array.replicate ops.size false):=⟨by simp,λj=>by
      simp only[Array.getD_eq_getD_getElem?,Array.getElem?_replicate,Nat.zero_testBit];split<;>rfl⟩
     have hrw:=yZ (P:=P) (n:=n) (bE:=u9 ops.toList []) (HA:=[]) ops.size hl (by intro x hx;cases hx) (by intro x hx;cases hx) hr hn (Fr.refl (ops:=ops) a.tmps) hc;have T:sP ops (u9 ops.toList []) (Array.replicate ops.size false):=⟨by simp,λi c hi=>by
      simp only[Array.getD_eq_getD_getElem?,Array.getElem?_replicate]at hi;split at hi<;>simp at hi⟩
     have U:=YF hok.1 (YI hok.2) hp _ T hrw;refine wpIn_region_any hf ?_;refine Yz hp _ _ a {w with drawn:=w.drawn+1} U ?_;rintro a' w' hd' hs' hk;exact fin hd' ⟨hs'.os,hs'.output,hs'.tape,Nat.le_trans (Nat.le_succ _) hs'.drawn⟩ hk
    ·exact hc.elim
  ·exact hc.elim
 | loop x ih=>
  intro bA ro e m h K hc hf ds a w Q hr hn hd hw hq;cases bA<;>try exact hc.elim
  rename_i slots d;simp only[compile]at hc;refine YM ?_;split at hc
  ·rename_i hno;obtain⟨x0,hL,C⟩:=sX hr hc;have key:=hL (λv h=>∀(a':Act)(w':World),Rel (oF slots v (lZ (slots++writes x) e)) a'.tmps->a'.tmps.size=n->a'.defers=marks m++ds->w'.heap=h->cU w w'->
     sW x a.tmps a'.tmps->vB ro P x Q a' w') ?_
   ·exact key a w (C _ (qU hr λ_ _=>rfl)) hn hd hw (.refl _) (λ_ _=>rfl)
   ·intro v h' hB a' w' hr' hn' hd' hw' hs' J;refine Jy (ih d ro _ m h' _ hB hf ds a' w' _ hr' hn' hd' hw' ?_);intro ex e2 m2 a2 w2 r hn2 hd2 hs2 B u hk2;have hm2:m2=m:=B hno;subst hm2;have hfr:sW x a.tmps a2.tmps:=λs hs=>by rw[u s hs,J s hs]
    have post:∀ex',K ex' e2 m2 w2.heap->Q ex' a2 w2:=λex' hk'=>hq ex' e2 m2 a2 w2 r hn2 hd2 (hs'.trans hs2) (λ_=>rfl) hfr hk';cases ex with
    |normal=>
     obtain⟨v',hZ,M⟩:=sX r hk2;refine hZ a2 w2 (M _ (qU hr λs hs=> ?_)) hn2 hd2 rfl (hs'.trans hs2) hfr;rw[mQ,Bool.or_eq_false_iff]at hs;exact hfr s hs.2
    |exit id=>exact post _ hk2
    |goto l=>exact post _ hk2
    |ret=>exact post _ hk2
    |panic ch=>exact post _ hk2
    |outgrown=>exact post _ hk2
  ·rename_i hno;obtain⟨x0,hL,C⟩:=sX hr hc;have key:=hL (λv h=>∀(a':Act)(w':World),Rel (oF slots v.2 (lZ (slots++writes x) e)) a'.tmps->a'.tmps.size=n->a'.defers=marks v.1++ds->w'.heap=h->cU w w'->
     sW x a.tmps a'.tmps->vB ro P x Q a' w') ?_
   ·exact key a w (C _ (qU hr λ_ _=>rfl)) hn hd hw (.refl _) (λ_ _=>rfl)
   ·intro v h' hB a' w' hr' hn' hd' hw' hs' J;refine Jy (ih d ro _ v.1 h' _ hB hf ds a' w' _ hr' hn' hd' hw' ?_);intro ex e2 m2 a2 w2 r hn2 hd2 hs2 B u hk2;have hfr:sW x a.tmps a2.tmps:=λs hs=>by rw[u s hs,J s hs]
    have post:∀ex',K ex' e2 m2 w2.heap->Q ex' a2 w2:=λex' hk'=>hq ex' e2 m2 a2 w2 r hn2 hd2 (hs'.trans hs2) (λh=>by simp only[iV]at h;rw[h]at hno;cases hno) hfr hk';cases ex with
    |normal=>
     obtain⟨v',hZ,M⟩:=sX r hk2;refine hZ a2 w2 (M _ (qU hr λs hs=> ?_)) hn2 hd2 rfl (hs'.trans hs2) hfr;rw[mQ,Bool.or_eq_false_iff]at hs;exact hfr s hs.2
    |exit id=>exact post _ hk2
    |goto l=>exact post _ hk2
    |ret=>exact post _ hk2
    |panic ch=>exact post _ hk2
    |outgrown=>exact post _ hk2
 | rangeFunc f params assign body V W=>
  intro bA ro e m h K hc hf ds a w Q hr hn hd hw hq;subst hw;cases bA<;>try exact hc.elim
  rename_i d A;simp only[compile]at hc;split at hc
  ·rename_i hk;split at hc
   ·rename_i hro;split at hc
    ·rename_i hlt;have X:ro=none:=by cases ro<;>simp_all
     subst X;have he:a.eval f=ev e f:=by rw[nH,hr.ev hk]
     refine wpIn_rangeFunc λY _=> ?_
     let D:=w.heap.size
     let l:=w.heap.size+1
     let L:Loop:={state:=.ready,pending:=none,fn:=Y,tmps:=a.tmps,params,assign,body,defers:=D}
     let w1:World:={w with heap:=(w.heap.push (.deferred (some []))).push (.loop L)}
     have hL:=hc L ?_
     ·unfold sU at hL;split at hL
      ·rename_i g first captured Z
       refine⟨l,[{target:=.collected D,args:= #[]}],w1,{target:=.fn (.func g) captured,args:=first ++ #[dm l]},w1,g,first ++ #[dm l]++captured,w1,?_,?_,?_,?_,?_,?_⟩
       ·simp only[Instr.enterLoop,newObj,bind,Sem.bind,pure,Sem.run,WF];show Result.ok _ _=Result.ok _ _;simp[l,D,w1,L]
       ·unfold resolve;simp only[he,Z];simp[Deferred.ofValue,Act.eval,dm,pure]
       ·intro f' _;exact sO none f'
       ·have :=sA (I8 (K:=λ_ _=>True) (hL.mono λ_ _ _=>trivial)) w1 (by simp[w1,lo,L,D]);obtain⟨hcb,aA⟩:=hL;unfold iS at hcb;split at hcb
        ·rename_i fn hfn;simp only[Bool.and_eq_true,Bool.not_eq_true',beq_eq_false_iff_ne,ne_eq]at hcb;have hb:fn.body.isNone=false:=by cases hx:fn.body<;>simp_all
         show Sem.run P (callFunc g (first ++ #[dm l]++captured)) w1=_;unfold callFunc;simp only[program,bind,Sem.bind,Sem.run,hfn,hb];rw[if_neg (by simpa using hcb.2)];rfl
        ·cases hcb
       ·intro h;simp[u7]at h
       ·refine CC ((hL.2 w1 (by simp[w1,lo,L,D])).mono ?_);rintro e' w3 ⟨v,rfl,z,st,p,hst,af,hj⟩;have z:cU w w3:=⟨z.os,z.output,z.tape,z.drawn⟩;obtain⟨jump,w4,hrun,hs4,hjp,ag⟩:=sA (YP (P:=P) (K:=λj h'=>j=p/\h'=w3.heap.setIfInBounds l (lo L .exhausted p)) af hst ⟨rfl,rfl⟩) w3 rfl;subst hjp;refine⟨jump,w4,hrun,?_⟩;have post:∀ex,K ex e (D::m) w4.heap->Q ex {a with defers:=[{target:=.collected D,args:= #[]}]++a.defers} w4:=λex hk'=>
         hq ex e (D::m) {a with defers:=[{target:=.collected D,args:= #[]}]++a.defers} w4 hr hn (by simp[hd,marks]) (z.trans hs4) (λh=>by simp[iV]at h) (λ_ _=>rfl) hk'
        rw[<-ag]at hj;cases jump with
        |none=>exact post _ hj
        |some ah=>
         cases ah<;>try exact hj.elim
         ·exact wpIn_exit (post _ (JB (F:=λid h'=>K (.exit id) e (D::m) h') hj))
         ·exact wpIn_ret (post _ hj)
      ·exact hL.elim
     ·intro args h' R st p hl' hB;have hlen:=JA params.toList args;show ot P l (#[]++(k7 params.toList args).toArray) h' R;unfold ot;rw[hl'];dsimp only[lo];refine⟨by simp[hlen,L],?_⟩;intro w2 ai;have N:=Jz (n:=n) params.toList args hr hn hlt;have aj:(L.params.zip (#[]++(k7 params.toList args).toArray)).foldl (λtmps(x:Nat×Value)=>tmps.setIfInBounds x.1 x.2) L.tmps=
        (params.toList.zip (k7 params.toList args)).foldl (λt(x:Nat×Value)=>t.setIfInBounds x.1 x.2) a.tmps:=by
       simp only[L];rw[<-Array.foldl_toList,Array.toList_zip];simp
      have goal:assign.wpIn (WF (some l)) 0 P (Exit.then (λa₁ w₁=>∃w₂,(Instr.beginRound l).run P w₁=.ok () w₂/\
        body.wpIn (WF (some l)) 0 P (roundPost P l λe' w'=>∃v,e'=.returned v/\cU w2 w'/\R v w'.heap) a₁ w₂) (λ_ _ _=>False))
        {tmps:=(L.params.zip (#[]++(k7 params.toList args).toArray)).foldl (λtmps(x:Nat×Value)=>tmps.setIfInBounds x.1 x.2) L.tmps,defers:=[]} w2:=by
       rw[aj];refine V d (some l) (vz params.toList args e) [] h' _ hB hf [] _ w2 _ N.1 N.2 rfl ai ?_;intro ex e1 m1 a1 O ak an aq hs1 aB aC H;cases ex<;>try exact H.elim
       obtain⟨p',hp',H⟩:=H;obtain⟨_,w3,hrun,z,au⟩:=sA (YN (P:=P) (K:=λ_ h'=>h'=O.heap.setIfInBounds l (lo L .busy p')) hp' rfl) O rfl;refine⟨w3,hrun,?_⟩;refine W A (some l) e1 m1 _ _ H hf [] a1 w3 _ ak an aq au ?_;intro ex' e2 m2 a2 w4 r hn2 hd2 hs4 B u hk2;obtain⟨p2,hp2,hk2⟩:=hk2;have hsame:cU w2 w4:=(hs1.trans z).trans hs4;have step:∀(jump:Option Code),R (.bool jump.isNone) (w4.heap.setIfInBounds l (lo L (if jump.isNone then .ready else .done) jump))->
         ∃v w',(Instr.endRound l jump).run P w4=.ok v w'/\∃v',Ending.returned v=.returned v'/\cU w2 w'/\R v' w'.heap:=by
        intro jump hR;obtain⟨v,av,ax,hs5,ay⟩:=sA (YO (P:=P) (jump:=jump) (K:=R) hp2 hR) w4 rfl;exact⟨v,av,ax,v,rfl,hsame.trans hs5,ay⟩
       cases ex'<;>try exact hk2.elim
       ·exact step none hk2
       ·exact step (some (.exit _)) hk2
       ·exact step (some .ret) hk2
      have :=roundIn_of_wpIn (F:=Fence.wide) (n:=0) (P:=P) (l:=l) (f:=L.fn) (w:=w2) (R:=λe' w'=>∃v,e'=.returned v/\cU w2 w'/\R v w'.heap) trivial goal;exact this
    ·exact hc.elim
   ·exact hc.elim
  ·exact hc.elim
end
open Go
def cH:List Nat->aa->(aa->Prop)->Prop
 | [],h,K=>K h
 |D::r,h,K=>h[D]? =some (.deferred (some []))/\cH r (h.setIfInBounds D (.deferred none)) K
def fD (P:Program) (e:bM) (h:aa):List ResultVar->(List Value->Prop)->Prop
 | [],K=>K []
 | .tmp t::r,K=>(match look e t with
  |some v=>fD P e h r λl=>K (v::l)
  |none=>False)
 | .cell a t::r,K=>(match look e a with
  | some p=>(match P.underlying t,P.info? t with
   |some d,some i=>(match jG d with
    |true=>aZ i.size h p λv=>fD P e h r λl=>K (v::l)
    |false=>af h p λv=>fD P e h r λl=>K (v::l))
   |_,_=>False)
  |none=>False)
def jI:List Value->Value
 | [v]=>v
 |l=>.tuple l.toArray
def vC(P:Program)(rs:List ResultVar)(K:KT):Exit->bM->List Nat->aa->Prop
 | .normal,e,m,h| .ret,e,m,h=>cH m h λh'=>fD P e h' rs λl=>K (jI l) h'
 |_,_,_,_=>False
def jJ:List Value->Nat->bM
 | [],_=>[]
 |v::r,i=>(i,v)::jJ r (i+1)
section
variable{P:Program}
theorem sY:∀{args:List Value}{i s:Nat}{v:Value},look (jJ args i) s=some v->i<=s/\args[s-i]? =some v
 | u::args,i,s,v,h=>by
  simp only[jJ,look]at h;split at h
  ·rename_i hb;have :=Nat.eq_of_beq_eq_true hb;subst this;exact⟨Nat.le_refl _,by simpa using h⟩
  ·obtain⟨h1,h2⟩:=sY h;refine⟨by omega,?_⟩;rw[show s-i=(s-(i+1))+1 by omega];simpa using h2
theorem YR{t:TypeId}{d:TypeDesc}{i:TypeInfo}{p:Value}{h:aa}{K:Value->Prop}(hd:P.underlying t=some d)(hi:P.info? t=some i)
  (hq:match jG d with
   |true=>aZ i.size h p K
   |false=>af h p K):∃v,aT P (do loadVar t (<-asAddr p)) h=some v/\K v:=by
 obtain⟨v,hv,hk⟩:=IS hd hi hq;refine⟨v,?_,hk⟩;have hp:∃a,p=.pointer (some a):=by
  cases hag:jG d<;>rw[hag]at hq<;>dsimp only at hq
  ·unfold af at hq;split at hq
   ·exact⟨_,rfl⟩
   ·exact hq.elim
  ·unfold aZ at hq;split at hq
   ·exact⟨_,rfl⟩
   ·exact hq.elim
 obtain⟨a,rfl⟩:=hp;exact hv
theorem CU{e:bM}{t:Array Value}{h:aa}(hr:Rel e t):∀{rs:List ResultVar}{K:List Value->Prop},fD P e h rs K->
  ∃l,aT P (rs.mapM λ(r:ResultVar)=>(match r with
   | .tmp s=>pure (t.getD s undef)
   | .cell a ty=>do loadVar ty (<-asAddr (t.getD a undef)):Sem Value)) h=some l/\l.length=rs.length/\K l
 | [],K,hq=>⟨[],rfl,rfl,hq⟩
 | .tmp s::r,K,hq=>by
  simp only[fD]at hq;split at hq
  ·rename_i v hv;obtain⟨l,hl,hlen,hk⟩:=CU hr hq;refine⟨v::l,?_,by simp[hlen],hk⟩;rw[List.mapM_cons];rw[aU (a:=v) (by simp[hr s v hv,aT,pure]),aU hl];rfl
  ·exact hq.elim
 | .cell a ty::r,K,hq=>by
  simp only[fD]at hq;split at hq
  ·rename_i p hp;split at hq
   ·rename_i d i hd hi;have b:match jG d with
     |true=>aZ i.size h p (λv=>fD P e h r λl=>K (v::l))
     |false=>af h p (λv=>fD P e h r λl=>K (v::l)):=hq
    obtain⟨v,hv,hk⟩:=YR hd hi b;obtain⟨l,hl,hlen,hk⟩:=CU hr hk;refine⟨v::l,?_,by simp[hlen],hk⟩;rw[List.mapM_cons];have :t.getD a undef=p:=by simp[hr a p hp]
    dsimp only;rw[this,aU hv,aU hl];rfl
   ·exact hq.elim
  ·exact hq.elim
theorem sZ{fn:Func}{e:bM}{t:Array Value}{h:aa}{K:List Value->Prop}(hr:Rel e t)(hq:fD P e h fn.results.toList K):
  ∃l,aT P (results fn t) h=some (jI l)/\K l:=by
 obtain⟨l,hl,hlen,hk⟩:=CU hr hq;refine⟨l,?_,hk⟩;unfold results;have hm:aT P (fn.results.mapM fun
   | .tmp s=>pure (t.getD s undef)
   | .cell a ty=>do loadVar ty (<-asAddr (t.getD a undef)):Sem (Array Value)) h=some l.toArray:=by
  rw[Array.mapM_eq_mapM_toList];have e:∀{α β:Type}(f:α->β)(s:Sem α),(Functor.map f s:Sem β)=(s>>=λa=>pure (f a)):=λf s=>rfl;rw[e];refine(aU ?_).trans rfl;exact hl
 refine(aU hm).trans ?_;show some _=some _;congr 1;split
 ·rename_i h1;have b:l.length=1:=by simpa using h1
  obtain⟨v,rfl⟩:=List.length_eq_one_iff.1 b;rfl
 ·rename_i h1;have b:l.length≠1:=by simpa using h1
  unfold jI;split
  ·simp at b
  ·rfl
theorem s7{fn:Func}{t:Array Value}{e:bM}{R:Ending->World->Prop}{K:KT}{w0:World}(hr:Rel e t)
  (hR:∀v w,cU w0 w->K v w.heap->R (.returned v) w):∀(m:List Nat)(w:World),cU w0 w->cH m w.heap (λh'=>fD P e h' fn.results.toList λl=>K (jI l) h')->
  LeavesInM Fence.wide 0 P fn t R (marks m) .returning w
 | [],w,hs,hq=>by
  obtain⟨l,hl,hk⟩:=sZ hr hq;exact⟨_,om hl w rfl,hR _ _ hs hk⟩
 |D::m,w,hs,hq=>by
  obtain⟨hD,hq⟩:=hq;refine⟨by simp,.inl ⟨D,{w with heap:=w.heap.setIfInBounds D (.deferred none)},rfl,?_,s7 hr hR m _ ⟨hs.os,hs.output,hs.tape,hs.drawn⟩ hq⟩⟩;simp[Instr.takeDeferred,getObj,setObj,bind,Sem.bind,Sem.run,hD,pure]
theorem YS{f:FuncId}{fn:Func}{c:Code}{bA:Ann}{args:List Value}{h:aa}{K:KT}(hf:P.funcs[f]? =some fn)(hb:fn.body=some c)
  (hm:P.follows .mixedOrders=true) (hlen:args.length<=fn.ntmps)
  (hc:compile P fn.ntmps false c bA (jJ args 0) [] h (vC P fn.results.toList K)):Cm P f args.toArray h K:=by
 intro w hw;refine callsIn_of_wp_marks hf hb trivial ?_;have a:Rel (jJ args 0) (args.toArray++Array.replicate (fn.ntmps-args.toArray.size) undef):=by
  intro s v hs;obtain⟨_,h2⟩:=sY hs;rw[Nat.sub_zero]at h2;have hlt:s<args.length:=(List.getElem?_eq_some_iff.1 h2).1;rw[Array.getElem?_append_left (by simpa using hlt)];simpa using h2
 have hsz:(args.toArray++Array.replicate (fn.ntmps-args.toArray.size) undef).size=fn.ntmps:=by simp;omega
 refine jH c bA none _ [] h _ hc hm [] _ w _ a hsz rfl hw ?_;intro ex e' m' a' w' hr' hn' hd' hs' _ _ hk;have fin:cH m' w'.heap (λh'=>fD P e' h' fn.results.toList λl=>K (jI l) h')->
   LeavesInM Fence.wide 0 P fn a'.tmps (λe w'=>∃v,e=.returned v/\cU w w'/\K v w'.heap) a'.defers .returning w':=by
  intro hk;rw[hd',List.append_nil];exact s7 hr' (λv w'' b d=>⟨v,rfl,b,d⟩) m' w' hs' hk
 cases ex<;>try exact hk.elim
 ·exact fin hk
 ·exact fin hk
theorem bT{f:FuncId}{fn:Func}{c:Code}{bA:Ann}{args:List Value}{h:aa}{K:KT}(hf:P.funcs[f]? =some fn)(hb:fn.body=some c)
  (a:iS P f=true) (hm:P.follows .mixedOrders=true) (hlen:args.length<=fn.ntmps)
  (hc:compile P fn.ntmps false c bA (jJ args 0) [] h (vC P fn.results.toList K)):aE P f args.toArray h K:=
 ⟨a,YS hf hb hm hlen hc⟩
theorem YT{f:FuncId}{args:Array Value}{w:World}{R:Ending->World->Prop}{K:KT}(hc:aE P f args w.heap K)
  (hk:∀v w',cU w w'->K v w'.heap->R (.returned v) w'):Calls P f args w R:=
 callsIn_wide.1 ((hc.2 w rfl).mono λ_ _⟨_,he,hs,hv⟩=>he▸hk _ _ hs hv)
end
open Go
def jo(P:Program)(f:FuncId)(args:Array Value)(h:aa)(K:aa->Prop):Prop:=
 iS P f=true/\∀w:World,w.heap=h->CallsDIn Fence.wide 0 P f args .returning w λe u w'=>∃v,e=.returned v/\u=.returning/\cU w w'/\K w'.heap
section
variable{P:Program}
theorem y6{fn:Func}{t:Array Value}{e:bM}{R:Ending->World->Prop}{K:KT}{w0:World}{f:FuncId}{cap dargs:Array Value}(hr:Rel e t)
  (hR:∀v w,cU w0 w->K v w.heap->R (.returned v) w):∀(m:List Nat)(w:World),cU w0 w->
  cH m w.heap (λh'=>jo P f (dargs++cap) h' λh''=>fD P e h'' fn.results.toList λl=>K (jI l) h'')->
  LeavesInM Fence.wide 0 P fn t R (marks m++ [{target:=.fn (.func f) cap,args:=dargs}]) .returning w
 | [],w,hs,hq=>by
  obtain⟨b,hq⟩:=hq;refine⟨by simp,.inr ⟨(λh=>by cases h),.func f,cap,f,dargs++cap,rfl,?_,λ_ _=>trivial,(hq w rfl).mono ?_⟩⟩
  ·show(callFunc f (dargs++cap)).run P w=_;unfold iS at b;split at b
   ·rename_i fn' hfn;simp only[Bool.and_eq_true,Bool.not_eq_true',beq_eq_false_iff_ne,ne_eq]at b;have hb:fn'.body.isNone=false:=by cases hx:fn'.body<;>simp_all
    have hrd:aT P (callFunc f (dargs++cap)) w.heap=some (.enter f (dargs++cap)):=by
     unfold callFunc;refine(aU (a:=P) (by rfl)).trans ?_;simp only[hfn,hb];rw[if_neg (by simpa using b.2)];rfl
    exact om hrd w rfl
   ·cases b
  ·rintro e' u w' ⟨v,rfl,rfl,hs',hk⟩;exact s7 (K:=K) hr hR [] w' (hs.trans hs') hk
 |D::m,w,hs,hq=>by
  obtain⟨hD,hq⟩:=hq;refine⟨by simp,.inl ⟨D,{w with heap:=w.heap.setIfInBounds D (.deferred none)},rfl,?_,y6 hr hR m _ ⟨hs.os,hs.output,hs.tape,hs.drawn⟩ hq⟩⟩;simp[Instr.takeDeferred,getObj,setObj,bind,Sem.bind,Sem.run,hD,pure]
theorem CV{ro:Option Nat}{id:Nat}{o1 o2:Oper}{s:Tmp}{f:FuncId}{caps:Array Operand}{c:Call}{a:Act}{w:World}{Q:Exit->Act->World->Prop}
  (hro:ro=none) (h1:o1.op=.makeFunc (.func f) #[] caps) (b:o1.dst=some s) (hg1:o1.guard=none) (h2:o2.op=.defer c) (hc:c.callee=.value (.tmp s)) (hca:c.args= #[]) (hd2:o2.dst=none) (hg2:o2.guard=none)
  (hs:s<a.tmps.size)
  (hq:Q .normal {tmps:=e9 a.tmps (some s) (.func (.func f) #[] (caps.map (iT a.tmps))),defers:={target:=.fn (.func f) (caps.map (iT a.tmps)),args:= #[]}::a.defers} w):
  (Code.region id #[o1,o2] false).wpIn (WF ro) 0 P Q a w:=by
 subst hro;refine wpIn_region ?_;show wpOpsIn (WF none) 0 P #[o1,o2] Q [0,1] a w;have w1:∀t,Region.wanted o1 (yielded #[o1,o2] t)=true:=λt=>by simp[Region.wanted,hg1]
 have w2:∀t,Region.wanted o2 (yielded #[o1,o2] t)=true:=λt=>by simp[Region.wanted,hg2]
 have g0:(#[o1,o2]:Array Oper)[0]? =some o1:=rfl;have g1:(#[o1,o2]:Array Oper)[1]? =some o2:=rfl;simp only[wpOpsIn,g0,g1,w1,w2,if_true];refine⟨λ_ _=>trivial,?_⟩;have e1:(o1.semAt (WF none).round a.eval).run P w=.ok (.value (.func (.func f) #[] (caps.map a.eval))) w:=by
  show(execOp a.eval o1).run P w=_;unfold execOp;simp only[h1,show ∀g:Operand->Value,Array.map g #[]= #[]from λg=>by simp];rfl
 rw[e1];refine⟨λ_ _=>trivial,?_⟩;have ev:(a.put o1.dst (.func (.func f) #[] (caps.map a.eval))).eval (.tmp s)=.func (.func f) #[] (caps.map a.eval):=by
  rw[b];simp[Act.put,Act.eval,hs]
 have e2:(o2.semAt (WF none).round (a.put o1.dst (.func (.func f) #[] (caps.map a.eval))).eval).run P w=.ok (.defer {target:=.fn (.func f) (caps.map a.eval),args:= #[]}) w:=by
  show(execOp _ o2).run P w=_;unfold execOp;simp only[h2,resolve,hc,hca,ev,show ∀g:Operand->Value,Array.map g #[]= #[]from λg=>by simp];rfl
 rw[e2];simp only[Oper.uponIn,hd2];have d:(caps.map a.eval)=caps.map (iT a.tmps):=by
  congr 1
 rw[b,d];exact hq
def CW(P:Program)(rs:List ResultVar)(f:FuncId)(args:Array Value)(K:KT):Exit->bM->List Nat->aa->Prop
 | .normal,e,m,h| .ret,e,m,h=>cH m h λh'=>jo P f args h' λh''=>fD P e h'' rs λl=>K (jI l) h''
 |_,_,_,_=>False
def JC(P:Program)(n:Nat)(B:Code)(iq:Ann)(rs:List ResultVar)(s:Tmp)(f:FuncId)(caps:List Operand)(K:KT):Exit->bM->List Nat->aa->Prop
 | .normal,e,[],h=>(match mO e caps,Nat.blt s n with
  |true,true=>compile P n false B iq ((s,.func (.func f) #[] (caps.map (ev e)).toArray)::e) [] h (CW P rs f (caps.map (ev e)).toArray K)
  |_,_=>False)
 |_,_,_,_=>False
theorem JD{f g:FuncId}{fn:Func}{A B:Code}{l8 iq:Ann}{id:Nat}{o1 o2:Oper}{s:Tmp}{caps:Array Operand}{c:Call}{args:List Value}{h:aa}{K:KT}
  (hf:P.funcs[f]? =some fn) (hb:fn.body=some (.seq A (.seq (.region id #[o1,o2] false) B))) (b:iS P f=true) (hm:P.follows .mixedOrders=true) (hlen:args.length<=fn.ntmps)
  (h1:o1.op=.makeFunc (.func g) #[] caps) (d:o1.dst=some s) (hg1:o1.guard=none) (h2:o2.op=.defer c) (hc:c.callee=.value (.tmp s)) (hca:c.args= #[]) (hd2:o2.dst=none) (hg2:o2.guard=none)
  (hq:compile P fn.ntmps false A l8 (jJ args 0) [] h (JC P fn.ntmps B iq fn.results.toList s g caps.toList K)):aE P f args.toArray h K:=by
 refine⟨b,λw hw=> ?_⟩;refine callsIn_of_wp_marks hf hb trivial ?_;have i:Rel (jJ args 0) (args.toArray++Array.replicate (fn.ntmps-args.toArray.size) undef):=by
  intro s v hs;obtain⟨_,h2⟩:=sY hs;rw[Nat.sub_zero]at h2;have hlt:s<args.length:=(List.getElem?_eq_some_iff.1 h2).1;rw[Array.getElem?_append_left (by simpa using hlt)];simpa using h2
 have hsz:(args.toArray++Array.replicate (fn.ntmps-args.toArray.size) undef).size=fn.ntmps:=by simp;omega
 refine wpIn_seq ?_;refine jH A l8 none _ [] h _ hq hm [] _ w _ i hsz rfl hw ?_;intro ex e' m' a' w' hr' hn' hd' hs' _ _ hk;cases ex<;>try exact hk.elim
 cases m' with
 |cons D m=>exact hk.elim
 | nil=>
  obtain⟨hkn,a,hk⟩:mO e' caps.toList=true/\s<fn.ntmps/\compile P fn.ntmps false B iq ((s,.func (.func g) #[] (caps.toList.map (ev e')).toArray)::e') [] w'.heap (CW P fn.results.toList g (caps.toList.map (ev e')).toArray K):=by
   simp only[JC]at hk;split at hk
   ·rename_i h1 h2;exact⟨h1,Nat.le_of_ble_eq_true h2,hk⟩
   ·exact hk.elim
  have j:a'.defers=[]:=hd';show(Code.seq (.region id #[o1,o2] false) B).wpIn Fence.wide 0 P _ a' w';refine wpIn_seq ?_;refine CV (ro:=none) rfl h1 d hg1 h2 hc hca hd2 hg2 (by rw[hn'];exact a) ?_;have k:caps.map (iT a'.tmps)=(caps.toList.map (ev e')).toArray:=by
   apply Array.ext';rw[Array.toList_map];apply List.map_congr_left;intro x hx;exact(hr'.ev (vf hkn x hx)).symm
  rw[k,j];have n:Rel ((s,.func (.func g) #[] (caps.toList.map (ev e')).toArray)::e') (e9 a'.tmps (some s) (.func (.func g) #[] (caps.toList.map (ev e')).toArray)):=
   hr'.put (dst:=some s) (by rw[hn'];simpa[nK]using a)
  refine jH B iq none _ [] w'.heap _ hk hm [{target:=.fn (.func g) (caps.toList.map (ev e')).toArray,args:= #[]}] _ w' _ n (by rw[pO];exact hn') rfl rfl ?_;intro o e2 m2 a2 w2 p y q r _ _ hk2;have fin:cH m2 w2.heap (λh'=>jo P g (caps.toList.map (ev e')).toArray h' λh''=>fD P e2 h'' fn.results.toList λl=>K (jI l) h'')->
    LeavesInM Fence.wide 0 P fn a2.tmps (λe w'=>∃v,e=.returned v/\cU w w'/\K v w'.heap) a2.defers .returning w2:=by
   intro hk;rw[q];refine y6 (dargs:= #[]) (w0:=w2) p (λv w'' t u=>⟨v,rfl,(hs'.trans r).trans t,u⟩) m2 w2 (.refl _) ?_;simpa using hk
  cases o<;>try exact hk2.elim
  ·exact fin hk2
  ·exact fin hk2
def cL:Code->Code
 | .seq a _=>a
 |c=>c
def cR:Code->Code
 | .seq _ b=>b
 |c=>c
def cO(i:Nat):Code->Oper
 | .region _ ops _=>(match ops[i]? with
  |some o=>o
  |none=>⟨none,.move (.const undef),0,"",#[],none⟩)
 |_=>⟨none,.move (.const undef),0,"",#[],none⟩
def vD:Code->Nat
 | .region id _ _=>id
 |_=>0
end
open Go
def bD:Code->Nat->List (Nat×List Nat)->Ann×Nat×List (Nat×List Nat)
 | .seq a b,i,[]=>(match bD a (i+1) []with
  |(x,j,s1)=>(match bD b j s1 with
   |(y,k,s2)=>(.two x y,k,s2)))
 | .seq a b,i,(p,sl)::s=>(match Nat.beq i p with
  | true=>(match bD a (i+1) s with
   |(x,j,s1)=>(match bD b j s1 with
    |(y,k,s2)=>(.cut sl x y,k,s2)))
  | false=>(match bD a (i+1) ((p,sl)::s)with
   |(x,j,s1)=>(match bD b j s1 with
    |(y,k,s2)=>(.two x y,k,s2))))
 | .cond _ a b,i,s=>(match bD a i s with
  |(x,j,s1)=>(match bD b j s1 with
   |(y,k,s2)=>(.two x y,k,s2)))
 | .block _ a,i,s=>(match bD a i s with
  |(x,j,s1)=>(.one x,j,s1))
 | .scope a,i,s=>(match bD a i s with
  |(x,j,s1)=>(.one x,j,s1))
 | .loop a,i,(_,sl)::s=>(match bD a (i+1) s with
  |(x,j,s1)=>(.loop sl x,j,s1))
 | .rangeFunc _ _ a b,i,s=>(match bD a i s with
  |(x,j,s1)=>(match bD b j s1 with
   |(y,k,s2)=>(.two x y,k,s2)))
 |_,i,s=>(.leaf,i,s)
theorem gh{σ:Type}{A:(σ->aa->Prop)->Prop}{B:σ->aa->Prop}(Q:σ->aa->Prop)(hA:∀J:σ->aa->Prop,(∀v h,Q v h->J v h)->A J)(hB:∀v h,Q v h->B v h):eW A B:=hA B hB
open Go
def bn(h:aa)(b:Nat)(o:Obj):aa:=h.setIfInBounds b o
theorem nM(h:aa)(b:Nat)(o:Obj):h.setIfInBounds b o=bn h b o:=rfl
section
variable{h h' h1 h2:aa}{b c:Nat}{o x:Obj}
theorem dN(hb:h[b]? =some o):b<h.size:=(Array.getElem?_eq_some_iff.1 hb).1
theorem gN(hb:b<h.size):(bn h b o)[b]? =some o:=by simp[bn,hb]
theorem gA(hb:h[b]? =some x):(bn h b o)[b]? =some o:=gN (dN hb)
theorem kD(hne:b≠c):(bn h b o)[c]? =h[c]? :=by simp[bn,Array.getElem?_setIfInBounds_ne hne]
theorem gx:(bn h b o).size=h.size:=by simp[bn]
theorem fO:(h.push o)[h.size]? =some o:=by simp
theorem pT:(h.push o).size=h.size+1:=by simp
structure bB(S:Nat->Prop)(h h':aa):Prop where
 size:h.size<=h'.size
 same:∀b,b<h.size->¬S b->h'[b]? =h[b]?
theorem bB.refl(S:Nat->Prop)(h:aa):bB S h h:=⟨Nat.le_refl _,λ_ _ _=>rfl⟩
theorem bB.trans{S S':Nat->Prop}(a:bB S h h1)(a':bB S' h1 h2)(hs:∀b,S' b->b<h.size->S b):bB S h h2:=
 ⟨Nat.le_trans a.size a'.size,λb hb hn=>(a'.same b (Nat.lt_of_lt_of_le hb a.size) (λhs'=>hn (hs b hs' hb))).trans (a.same b hb hn)⟩
theorem bB.mono{S S':Nat->Prop}(a:bB S h h1)(hs:∀b,S b->b<h.size->S' b):bB S' h h1:=
 ⟨a.size,λb hb hn=>a.same b hb λhb'=>hn (hs b hb' hb)⟩
theorem bB.push(S:Nat->Prop)(h:aa)(o:Obj):bB S h (h.push o):=
 ⟨by simp,λb hb _=>by rw[Array.getElem?_push];simp[Nat.ne_of_lt hb]⟩
theorem bB.bn{S:Nat->Prop}(h:aa){b:Nat}(o:Obj)(hb:S b):bB S h (bn h b o):=
 ⟨by simp[Mh.bn],λc _ hn=>kD (λe=>hn (e▸hb))⟩
theorem bB.get{S:Nat->Prop}(a:bB S h h1)(hb:h[b]? =some o)(hn:¬S b):h1[b]? =some o:=(a.same b (dN hb) hn).trans hb
abbrev Ext(h h':aa):Prop:=bB (λ_=>False) h h'
theorem Ext.get(a:Ext h h1)(hb:h[b]? =some o):h1[b]? =some o:=bB.get a hb id
theorem Ext.bn{S:Nat->Prop}(a:Ext h h1):bB S h h1:=a.mono λ_ hf _=>hf.elim
theorem aY{cs:Array Value}{T:TypeId}{fz:Nat×Nat}{i:Nat}{v:Value}(hb:h[b]? =some (.cells cs T fz))(hv:cs[i]? =some v):hcell h ⟨b,i,none⟩=some v:=by
 simp[hcell,hb,hv]
theorem YU{cs:Array Value}{T:TypeId}{i:Nat}(hb:h[b]? =some (.cells cs T (0,0))):oh h ⟨b,i,none⟩=false:=by
 simp[oh,hb]
theorem YV{cs:Array Value}{T:TypeId}{fz:Nat×Nat}{i:Nat}{v:Value}(hb:h[b]? =some (.cells cs T fz)):
  e8 h ⟨b,i,none⟩ v=bn h b (.cells (cs.setIfInBounds i v) T fz):=by
 have hlt:=dN hb;have a:h[b]=.cells cs T fz:=by simpa[Array.getElem?_eq_getElem hlt]using hb
 unfold e8 bn;apply Array.ext
 ·simp
 ·intro j h1 h2;simp only[Array.size_modify]at h1;rw[Array.getElem_modify,Array.getElem_setIfInBounds h1];split
  ·rename_i e;subst e;simp[a]
  ·rfl
theorem vE{o1 o2:Obj}:bn (bn h b o1) b o2=bn h b o2:=by simp[bn]
theorem bC{a:Value}{v:Value}{i:Nat}{K:Value->Prop}(ha:a=.pointer (some ⟨b,i,none⟩))(hv:hcell h ⟨b,i,none⟩=some v)(hk:K v):af h a K:=by
 subst ha;simp[af,hv,hk]
theorem qV{cs:List Value}{T:TypeId}{fz:Nat×Nat}{i:Nat}(hb:h[b]? =some (.cells cs.toArray T fz)):∀(n i:Nat),i+n<=cs.length->gL h b i n=some ((cs.drop i).take n)
 |0,i,_=>by simp[gL]
 |n+1,i,hle=>by
  have hlt:i<cs.length:=by omega
  have hv:hcell h ⟨b,i,none⟩=some cs[i]:=aY hb (by simp[hlt]);simp only[gL,hv];rw[qV (i:=i) hb n (i+1) (by omega)];simp only[Option.some.injEq];rw[List.drop_eq_getElem_cons hlt,List.take_succ_cons]
def over(cs:List Value)(i:Nat)(l:List Value):List Value:=cs.take i++l++cs.drop (i+l.length)
theorem s8{T:TypeId}{K:aa->Prop}:∀(l:List Value)(i:Nat)(h:aa)(cs:List Value),h[b]? =some (.cells cs.toArray T (0,0))->i+l.length<=cs.length->
  (∀v∈l,plainCell v=true)->K (bn h b (.cells (over cs i l).toArray T (0,0)))->kX h b i l K
 | [],i,h,cs,hb,hle,_,hk=>by
  have :over cs i []=cs:=by simp[over]
  rw[this]at hk;have :bn h b (.cells cs.toArray T (0,0))=h:=by
   have hlt:=dN hb;apply Array.ext
   ·simp[bn]
   ·intro j h1 h2;have :h[b]=.cells cs.toArray T (0,0):=by simpa[Array.getElem?_eq_getElem hlt]using hb
    simp only[bn,Array.getElem_setIfInBounds h2];split
    ·rename_i e;subst e;exact this.symm
    ·rfl
  rw[this]at hk;exact hk
 | v::l,i,h,cs,hb,hle,hp,hk=>by
  simp only[List.length_cons]at hle;have hlt:i<cs.length:=by omega
  refine⟨hp v List.mem_cons_self,?_,YU hb,?_⟩
  ·rw[aY hb (v:=cs[i]) (by simp[hlt])];rfl
  ·rw[YV hb];have e:(cs.toArray.setIfInBounds i v)=(cs.set i v).toArray:=by simp
   rw[e];refine s8 l (i+1) _ (cs.set i v) (gA hb) (by simp;omega) (λu hu=>hp u (List.mem_cons_of_mem _ hu)) ?_;rw[vE];have :over (cs.set i v) (i+1) l=over cs i (v::l):=by
    simp only[over,List.length_cons];rw[List.take_succ_eq_append_getElem (by simpa using hlt)];simp only[List.getElem_set_self,List.append_assoc,List.singleton_append,List.cons_append];rw[List.take_set_of_le (Nat.le_refl i),List.drop_set_of_lt (by omega)];simp[Nat.add_comm,Nat.add_left_comm]
   rw[this];exact hk
section rows
variable{α:Type}{enc:α->List Value}{n:Nat}
def row(enc:α->List Value)(xs:List α):List Value:=xs.flatMap enc
theorem gi(hn:∀a,(enc a).length=n):∀xs:List α,(row enc xs).length=xs.length*n
 | []=>by simp[row]
 |x::xs=>by
  have :=gi hn xs;simp only[row,List.flatMap_cons,List.length_append,List.length_cons]at *;rw[this,hn,Nat.succ_mul,Nat.add_comm]
theorem y7(hn:∀a,(enc a).length=n):∀(xs:List α)(i:Nat),(row enc xs).take (i*n)=row enc (xs.take i)
 | [],i=>by simp[row]
 |x::xs,0=>by simp[row]
 |x::xs,i+1=>by
  have :=y7 hn xs i;simp only[row,List.flatMap_cons,List.take_succ_cons]at *;rw[Nat.succ_mul,Nat.add_comm,<-hn x,List.take_append,List.take_of_length_le (by omega),hn x];simp[this]
theorem y8(hn:∀a,(enc a).length=n):∀(xs:List α)(i:Nat),(row enc xs).drop (i*n)=row enc (xs.drop i)
 | [],i=>by simp[row]
 |x::xs,0=>by simp[row]
 |x::xs,i+1=>by
  have :=y8 hn xs i;simp only[row,List.flatMap_cons,List.drop_succ_cons]at *;rw[Nat.succ_mul,Nat.add_comm,<-hn x,List.drop_append,List.drop_of_length_le (by omega),hn x];simp[this]
theorem oH(xs ys:List α):row enc (xs++ys)=row enc xs++row enc ys:=by simp[row]
theorem CX(hn:∀a,(enc a).length=n){xs:List α}{i:Nat}(hi:i<xs.length)(rest:List Value):
  ((row enc xs++rest).drop (i*n)).take n=enc xs[i]:=by
 have hl:=gi hn xs;have hle:i*n+n<=xs.length*n:=by
  have :=Nat.mul_le_mul_right n (Nat.succ_le_of_lt hi);rw[Nat.succ_mul]at this;exact this
 rw[List.drop_append_of_le_length (by omega),y8 hn,List.take_append_of_le_length (by rw[gi hn];simp;rw[Nat.sub_mul];omega)];rw[List.drop_eq_getElem_cons hi];simp only[row,List.flatMap_cons];rw[List.take_append_of_le_length (by rw[hn];exact Nat.le_refl _),List.take_of_length_le (by rw[hn];exact Nat.le_refl _)]
theorem qW(hn:∀a,(enc a).length=n){xs:List α}{i j:Nat}(hi:i<xs.length)(hj:j<n)(rest:List Value):
  (row enc xs++rest)[i*n+j]? =(enc xs[i])[j]? :=by
 rw[<-CX hn hi rest,List.getElem?_take_of_lt hj,List.getElem?_drop]
theorem vF(hn:∀a,(enc a).length=n){xs:List α}{i:Nat}(hi:i<xs.length)(a:α)(rest:List Value):
  over (row enc xs++rest) (i*n) (enc a)=row enc (xs.set i a)++rest:=by
 have hl:=gi hn xs;have hle:i*n+n<=xs.length*n:=by
  have :=Nat.mul_le_mul_right n (Nat.succ_le_of_lt hi);rw[Nat.succ_mul]at this;exact this
 unfold over;rw[hn,List.take_append_of_le_length (by omega),y7 hn,show i*n+n=(i+1)*n by rw[Nat.succ_mul],List.drop_append_of_le_length (by rw[Nat.succ_mul];omega),y8 hn];rw[List.set_eq_take_append_cons_drop,if_pos hi];simp[row]
end rows
end
open Go
theorem vG{σ:Type}{B:σ->aa->(σ->aa->Prop)->Prop}{x:σ}{h:aa}(I:σ->aa->Prop)(μ:σ->aa->Nat)(h0:I x h)
  (step:∀(x:σ)(h:aa)(Z:σ->aa->Prop),I x h->(∀x' h',I x' h'->μ x' h'<μ x h->Z x' h')->B x h Z):bK B x h:=by
 intro Z hZ;have key:∀n x h,μ x h=n->I x h->Z x h:=by
  intro n
  induction n using Nat.strongRecOn with
  |_ n ih=>
   intro x h hn hI;exact hZ x h (step x h Z hI λx' h' c hlt=>ih _ (hn▸hlt) x' h' rfl c)
 exact key _ x h rfl h0
section
variable{K:Value->Prop}{KH:KT}{T E:Prop}{h:aa}{k:IntKind}{a b:Int}{v x y:Value}{n m o:Nat}
@[simp] theorem bq:az (.bool true) T E=T:=rfl
@[simp] theorem aL:az (.bool false) T E=E:=rfl
@[simp] theorem bg {p:Prop} [Decidable p]:az (.bool (decide p)) T E↔(p->T)/\(¬p->E):=by by_cases hp:p<;>simp[az,hp]
theorem vH(c:Bool):az (.bool c) T E↔(c=true->T)/\(c=false->E):=by cases c<;>simp[az]
@[simp] theorem iW:az (.bool (a==b)) T E↔(a=b->T)/\(¬a=b->E):=by rw[vH];simp
@[simp] theorem CY:az (.bool (a != b)) T E↔(¬a=b->T)/\(a=b->E):=by rw[vH];simp
@[simp] theorem akz {c:Bool}:az (.bool !c) T E↔az (.bool c) E T:=by cases c<;>simp
@[simp] theorem bz {q:Addr}:aJ (.pointer (some q)) K=K (.pointer (some q)):=rfl
@[simp] theorem akA {f:Nat} {c d:Array Value}:aJ (.func (.func f) c d) K=K (.func (.func f) c d):=rfl
@[simp] theorem akB {f:Nat} {c d:Array Value}:aJ (.func (.yield f) c d) K=K (.func (.yield f) c d):=rfl
@[simp] theorem aQ {off:Nat}:aq off (.pointer (some ⟨n,o,none⟩)) K=K (.pointer (some ⟨n,o+off,none⟩)):=rfl
@[simp] theorem cI:af h (.pointer (some ⟨n,o,none⟩)) K=(match hcell h ⟨n,o,none⟩with
  |some v=>K v
  |none=>False):=rfl
@[simp] theorem CZ:aZ m h (.pointer (some ⟨n,o,none⟩)) K=(match gL h n o m with
  |some l=>K (.agg l.toArray)
  |none=>False):=rfl
@[simp] theorem JE {size len cap:Nat}:aW size (.slice (some ⟨n,o,none⟩) len cap) (.int k a) K↔(0<=a/\a<len)/\K (.pointer (some ⟨n,o+a.toNat*size,none⟩)):=by
 simp[aW,and_assoc]
@[simp] theorem jq {size len:Nat}:bV size len (.pointer (some ⟨n,o,none⟩)) (.int k a) K↔(0<=a/\a<len)/\K (.pointer (some ⟨n,o+a.toNat*size,none⟩)):=by
 simp[bV,and_assoc]
@[simp] theorem JF {q:Option Addr} {cap:Nat}:bx (.slice q n cap) K=K (.int .i64 n):=rfl
@[simp] theorem akC {s:ByteArray}:sE (.string s) K=K (.int .i64 s.size):=rfl
@[simp] theorem akD {q:Option Addr} {cap:Nat}:sF (.slice q n cap) K=K (.int .i64 cap):=rfl
@[simp] theorem qX {vs:Array Value}:aX (.tuple vs) n K=(match vs[n]? with
  |some v=>K v
  |none=>False):=rfl
@[simp] theorem akE {vs:Array Value}:lV n (.agg vs) K=(match vs[n]? with
  |some v=>K v
  |none=>False):=rfl
@[simp] theorem akF {vs:Array Value}:sD n m (.agg vs) K=K (.agg (vs.extract n (n+m))):=rfl
@[simp] theorem akG:sC (.bool true) x y K=K x:=rfl
@[simp] theorem akH:sC (.bool false) x y K=K y:=rfl
@[simp] theorem oI:jD (.int k a) (.int k b) K=K (.int k (if b<a then b else a)):=rfl
@[simp] theorem l9:iH (.int k a) (.int k b) K=K (.int k (if b>a then b else a)):=rfl
@[simp] theorem me {k':IntKind}:fR k (.int k' a) K=K (.int k (k.wrap a)):=rfl
@[simp] theorem bH {c:Bool}:bS .not (.bool c) K=K (.bool !c):=rfl
@[simp] theorem akI:bS .neg (.int k a) K=K (.int k (k.wrap (0-a))):=rfl
@[simp] theorem bt:ak .add (.int k a) (.int k b) K↔K (.int k (k.wrap (a+b))):=by simp[ak]
@[simp] theorem eM:ak .sub (.int k a) (.int k b) K↔K (.int k (k.wrap (a-b))):=by simp[ak]
@[simp] theorem jr:ak .mul (.int k a) (.int k b) K↔K (.int k (k.wrap (a*b))):=by simp[ak]
@[simp] theorem mR:ak .quo (.int k a) (.int k b) K↔b≠0/\K (.int k (k.wrap (a.tdiv b))):=by simp[ak]
@[simp] theorem nN:ak .rem (.int k a) (.int k b) K↔b≠0/\K (.int k (a.tmod b)):=by simp[ak]
@[simp] theorem cF:ak .eql (.int k a) (.int k b) K↔K (.bool (a==b)):=by simp[ak]
@[simp] theorem fE:ak .neq (.int k a) (.int k b) K↔K (.bool (a != b)):=by simp[ak]
@[simp] theorem bu:ak .lss (.int k a) (.int k b) K↔K (.bool (decide (a<b))):=by simp[ak]
@[simp] theorem mS:ak .leq (.int k a) (.int k b) K↔K (.bool (decide (a<=b))):=by simp[ak]
@[simp] theorem dZ:ak .gtr (.int k a) (.int k b) K↔K (.bool (decide (b<a))):=by simp[ak]
@[simp] theorem c8:ak .geq (.int k a) (.int k b) K↔K (.bool (decide (b<=a))):=by simp[ak]
@[simp] theorem ef {q:Option Addr}:bL false .ptr (.pointer q) (.pointer none) K↔K (.bool q.isNone):=by cases q<;>simp[bL]
@[simp] theorem y9 {q:Option Addr}:bL true .ptr (.pointer q) (.pointer none) K↔K (.bool q.isSome):=by cases q<;>simp[bL]
@[simp] theorem YW {q:Option Addr} {c:Nat}:bL false .slice (.slice q n c) (.slice none 0 0) K↔K (.bool q.isNone):=by cases q<;>simp[bL]
@[simp] theorem akJ {q:Option Addr} {c:Nat}:bL true .slice (.slice q n c) (.slice none 0 0) K↔K (.bool q.isSome):=by cases q<;>simp[bL]
@[simp] theorem akK:bL false .iface .nilIface .nilIface K↔K (.bool true):=by simp[bL]
@[simp] theorem YX:bL true .iface .nilIface .nilIface K↔K (.bool false):=by simp[bL]
@[simp] theorem akL {c d:Bool}:bL false .bool (.bool c) (.bool d) K↔K (.bool (c==d)):=by simp[bL]
@[simp] theorem akM {c d:Bool}:bL true .bool (.bool c) (.bool d) K↔K (.bool (c != d)):=by cases c<;>cases d<;>simp[bL]
@[simp] theorem akN {c d:Bool}:az (.bool (c==d)) T E↔(c=d->T)/\(¬c=d->E):=by cases c<;>cases d<;>simp
@[simp] theorem akO {c d:Bool}:az (.bool (c != d)) T E↔(¬c=d->T)/\(c=d->E):=by cases c<;>cases d<;>simp
@[simp] theorem akP:plainCell (.int k a)=true:=rfl
@[simp] theorem akQ {c:Bool}:plainCell (.bool c)=true:=rfl
@[simp] theorem akR {c:ByteArray}:plainCell (.string c)=true:=rfl
@[simp] theorem akS {q:Option Addr}:plainCell (.pointer q)=true:=rfl
@[simp] theorem akT {q:Option Addr}:plainCell (.slice q n m)=true:=rfl
@[simp] theorem akU {q:Option Nat}:plainCell (.map q)=true:=rfl
@[simp] theorem akV {f:Fn} {c d:Array Value}:plainCell (.func f c d)=true:=rfl
@[simp] theorem akW:plainCell .nilFunc=true:=rfl
@[simp] theorem akX:plainCell .nilIface=true:=rfl
@[simp] theorem akY {t:TypeId}:plainCell (.iface t v)=true:=rfl
@[simp] theorem YY:(Value.int k a).cells= #[.int k a]:=rfl
@[simp] theorem akZ {c:Bool}:(Value.bool c).cells= #[.bool c]:=rfl
@[simp] theorem ak0 {c:ByteArray}:(Value.string c).cells= #[.string c]:=rfl
@[simp] theorem YZ {q:Option Addr}:(Value.pointer q).cells= #[.pointer q]:=rfl
@[simp] theorem ak1 {q:Option Addr}:(Value.slice q n m).cells= #[.slice q n m]:=rfl
@[simp] theorem ak2 {q:Option Nat}:(Value.map q).cells= #[.map q]:=rfl
@[simp] theorem ak3 {f:Fn} {c d:Array Value}:(Value.func f c d).cells= #[.func f c d]:=rfl
@[simp] theorem ak4:(Value.nilFunc).cells= #[.nilFunc]:=rfl
@[simp] theorem ak5:(Value.nilIface).cells= #[.nilIface]:=rfl
@[simp] theorem ak6 {t:TypeId}:(Value.iface t v).cells= #[.iface t v]:=rfl
@[simp] theorem JG {c:Array Value}:(Value.agg c).cells=c:=rfl
theorem Y0{P:Program}{f:Nat}{first captured:Array Value}{args:List Value}(hc:aE P f (first ++args.toArray++captured) h KH):
  aS P (.func (.func f) first captured) args.toArray h KH:=hc
theorem C0{n:Int}(h0:k.min<=n)(h1:n<=k.max):k.wrap n=n:=by
 unfold IntKind.wrap;cases k<;>simp only[IntKind.bits,IntKind.signed,IntKind.min,IntKind.max,Bool.true_and,Bool.false_and,if_true,Bool.false_eq_true,if_false]at * <;>(try split)<;>simp at * <;>omega
theorem bG{n:Int}(h0: -9223372036854775808<=n)(h1:n<=9223372036854775807):IntKind.i64.wrap n=n:=C0 h0 h1
theorem s9{t:TypeId}(hk:KH (.pointer (some ⟨h.size,0,none⟩)) (h.push (.cells v.cells t (0,0)))):aB t v h KH:=hk
theorem mg{a:Value}{c i:Nat}{cs:List Value}{T:TypeId}{sz:Nat}(ha:a=.pointer (some ⟨c,i,none⟩))(hb:h[c]? =some (.cells cs.toArray T (0,0)))
  (hs:v.cells.size=sz) (hle:i+v.cells.size<=cs.length) (hp:∀u∈v.cells.toList,plainCell u=true)
  (hk:KH undef (bn h c (.cells (over cs i v.cells.toList).toArray T (0,0)))):aC sz a v h KH:=by
 subst ha;exact⟨hs,s8 _ _ _ cs hb (by simpa using hle) hp hk⟩
end
open Go
section
variable{h:aa}{b:Nat}
theorem ir{v:Value}{l:List Value}{T:TypeId}{fz:Nat×Nat}(hb:h[b]? =some (.cells (v::l).toArray T fz)):hcell h ⟨b,0,none⟩=some v:=aY hb (by simp)
theorem vI{u v:Value}{l:List Value}{T:TypeId}{fz:Nat×Nat}(hb:h[b]? =some (.cells (u::v::l).toArray T fz)):hcell h ⟨b,1,none⟩=some v:=aY hb (by simp)
theorem JH{u t v:Value}{l:List Value}{T:TypeId}{fz:Nat×Nat}(hb:h[b]? =some (.cells (u::t::v::l).toArray T fz)):hcell h ⟨b,2,none⟩=some v:=aY hb (by simp)
theorem za{K:aa->Prop}:∀(m:List Nat)(h:aa),(∀D∈m,h[D]? =some (.deferred (some [])))->m.Nodup->(∀h',bB (λb=>b∈m) h h'->K h')->cH m h K
 | [],h,_,_,hk=>hk h (.refl _ _)
 |D::m,h,hD,hn,hk=>by
  refine⟨hD D List.mem_cons_self,?_⟩;rw[List.nodup_cons]at hn;refine za m _ (λD' f=> ?_) hn.2 λh' hu=>hk h' ?_
  ·rw[nM,kD (λe:D=D'=>hn.1 (by rw[e];exact f))];exact hD D' (List.mem_cons_of_mem _ f)
  ·exact(bB.bn (S:=λb=>b∈D::m) h _ List.mem_cons_self).trans hu λb hb _=>List.mem_cons_of_mem _ hb
theorem JI{l:Nat}{L:Loop}{R:KT}{p:Option Code}(hb:h[l]? =some (lo L .busy p))(hk:R (.bool true) (bn h l (lo L .ready none))):vv l L R .normal h:=
 ⟨p,hb,hk⟩
theorem JJ{l:Nat}{L:Loop}{K:aa->Prop}{p:Option Code}(hb:h[l]? =some (lo L .ready p))(hk:K (bn h l (lo L .busy p))):gY l L h K:=
 ⟨p,hb,hk⟩
end
section
variable{K:Value->Prop}{a b c d:Value}{l:List Value}
theorem b9:aX (.tuple (a::l).toArray) 0 K=K a:=by simp[aX]
theorem bZ:aX (.tuple (a::b::l).toArray) 1 K=K b:=by simp[aX]
theorem k8:aX (.tuple (a::b::c::l).toArray) 2 K=K c:=by simp[aX]
end
section
variable{α:Type}{enc:α->List Value}{n:Nat}{T:TypeId}{h h':aa}{v:Value}{bl:Nat}{xs ys:List α}
def dL(enc:α->List Value)(n:Nat)(T:TypeId)(h:aa)(v:Value)(bl:Nat)(xs:List α):Prop:=
 (v=.slice none 0 0/\xs=[])\/∃cap rest,v=.slice (some ⟨bl,0,none⟩) xs.length cap/\h[bl]? =some (.cells (row enc xs++rest).toArray T (0,0))/\
  rest.length=(cap-xs.length)*n/\xs.length<=cap
theorem dL.len(H:dL enc n T h v bl xs):∃base cap,v=.slice base xs.length cap:=by
 rcases H with ⟨rfl,rfl⟩|⟨_,_,rfl,_⟩
 ·exact⟨_,_,rfl⟩
 ·exact⟨_,_,rfl⟩
theorem dL.full(H:dL enc n T h v bl xs)(hl:0<xs.length):∃cap rest,v=.slice (some ⟨bl,0,none⟩) xs.length cap/\h[bl]? =some (.cells (row enc xs++rest).toArray T (0,0))/\
  rest.length=(cap-xs.length)*n/\xs.length<=cap:=by
 rcases H with ⟨rfl,rfl⟩|H
 ·simp at hl
 ·exact H
theorem dL.bn{S:Nat->Prop}(H:dL enc n T h v bl xs)(hu:bB S h h')(hn':¬S bl):dL enc n T h' v bl xs:=by
 rcases H with H|⟨cap,rest,a,b,c,d⟩
 ·exact .inl H
 ·exact .inr ⟨cap,rest,a,hu.get b hn',c,d⟩
theorem dL.slot{m:Nat}(H:dL enc m T h v bl xs){i j:Nat}(he:∀a,(enc a).length=m)(hi:i<xs.length)(hj:j<m):hcell h ⟨bl,i*m+j,none⟩=(enc xs[i])[j]? :=by
 obtain⟨cap,rest,_,hb,_,_⟩:=H.full (by omega);rw[aY hb (v:=(enc xs[i])[j]'(by rw[he];exact hj)) (by
  have :=qW he hi hj rest;rw[List.getElem?_toArray,this];simp)]
 simp
theorem dL.idx(H:dL enc n T h v bl xs){i:Nat}{k:IntKind}{K:Value->Prop}(hi:i<xs.length)(hk:K (.pointer (some ⟨bl,i*n,none⟩))):aW n v (.int k i) K:=by
 obtain⟨cap,rest,rfl,hb,_,_⟩:=H.full (by omega);rw[JE];refine⟨⟨by omega,by omega⟩,?_⟩;simpa using hk
theorem dL.ta(H:dL enc n T h v bl xs){K:Value->Prop}(hk:K (.int .i64 xs.length)):bx v K:=by
 obtain⟨b,c,rfl⟩:=H.len;exact hk
theorem Y1(he:∀a,(enc a).length=n)(H:dL enc n T h v bl xs):∃base cap,v=.slice base xs.length cap/\gM h n xs.length base=some (row enc xs):=by
 rcases H with ⟨rfl,rfl⟩|⟨cap,rest,rfl,hb,_,_⟩
 ·exact⟨_,_,rfl,rfl⟩
 ·refine⟨some ⟨bl,0,none⟩,cap,rfl,?_⟩;have hl:=gi he xs;simp only[gM];rw[qV (i:=0) hb _ 0 (by simp[hl])];rw[List.drop_zero,<-hl,List.take_left'];rfl
theorem C1{bytes:Nat}{zero:List Value}{f:Option Addr}{m xc:Nat}{K:KT}(he:∀a,(enc a).length=n)(hp:∀a,∀u∈enc a,plainCell u=true)(hz:zero.length=n)
  (H:dL enc n T h v bl xs) (hm:m=ys.length) (hx:gM h n m f=some (row enc ys)) (hby:0<bytes) (hb:(xs.length+ys.length)*bytes<=2^47)
  (hK:∀v' e h',dL enc n T h' v' e (xs++ys)->(e=bl\/e=h.size)->bB (λb=>b=bl/\∃cs,h[b]? =some (.cells cs T (0,0))) h h'->(bl<h.size->e<h'.size)->K v' h'):
  cZ T n bytes zero v (.slice f m xc) h K:=by
 subst hm;have g:=gi he xs;have i:=gi he ys;have k:∀u∈row enc ys,plainCell u=true:=by
  intro u hu;simp only[row,List.mem_flatMap]at hu;obtain⟨a,_,ha⟩:=hu;exact hp a u ha
 have j:∀cap,cap<xs.length+ys.length->Builtin.nextslicecap (xs.length+ys.length) cap*bytes<=2^48/\xs.length+ys.length<2^63:=by
  intro cap hc;refine⟨growslice_fits hc (by omega),?_⟩;have :=Nat.le_mul_of_pos_right (xs.length+ys.length) hby;omega
 have hzl:∀m,(bO zero m).length=m*n:=by
  intro m;simp[bO,hz]
 have fresh:∀(c:Nat),xs.length+ys.length<=c->K (.slice (some ⟨h.size,0,none⟩) (xs.length+ys.length) c) (h.push (.cells (row enc xs++row enc ys++bO zero (c-(xs.length+ys.length))).toArray T (0,0))):=by
  intro c hc;exact hK _ h.size _ (.inr ⟨c,bO zero (c-(xs.length+ys.length)),by simp,by rw[fO,oH],by simp[hzl],by simpa using hc⟩) (.inr rfl) (bB.push _ _ _) (λ_=>by simp)
 rcases H with ⟨rfl,rfl⟩|⟨cap,rest,rfl,hbk,hr,hle⟩
 ·simp only[cZ,hx];by_cases h0:ys.length=0
  ·have :ys=[]:=List.eq_nil_of_length_eq_zero h0;subst this;simp only[List.length_nil,Nat.add_zero,Nat.le_refl,if_true];exact hK _ bl _ (.inl ⟨rfl,rfl⟩) (.inl rfl) (.refl _ _) id
  ·rw[if_neg (by omega)];simp only[gM,List.nil_append];have hc:=j 0 (by simp;omega);simp only[List.length_nil]at hc;refine⟨hc.1,hc.2,λc h1 h2=> ?_⟩;have :=fresh c (by simpa using h1);simpa[row]using this
 ·simp only[cZ,hx];by_cases hcap:xs.length+ys.length<=cap
  ·rw[if_pos hcap];have hrl:rest.length=cap*n-xs.length*n:=by rw[hr,Nat.sub_mul]
   have hmul:(xs.length+ys.length)*n<=cap*n:=Nat.mul_le_mul_right n hcap;rw[Nat.add_mul]at hmul;refine s8 _ _ _ _ hbk (by rw[List.length_append,g,i];omega) k ?_;have o:over (row enc xs++rest) (0+xs.length*n) (row enc ys)=row enc (xs++ys)++rest.drop (ys.length*n):=by
    unfold over;rw[Nat.zero_add,<-g,List.take_left',i,List.drop_append,oH]
    ·rw[List.drop_of_length_le (by omega),show(row enc xs).length+ys.length*n-(row enc xs).length=ys.length*n by omega];simp
    ·rfl
   rw[o];refine hK _ bl _ (.inr ⟨cap,rest.drop (ys.length*n),by simp,gA hbk,?_,by simpa using hcap⟩) (.inl rfl) (bB.bn _ _ ⟨rfl,_,hbk⟩) (by simp[gx]);rw[List.length_drop,hrl,List.length_append,Nat.sub_mul,Nat.add_mul];omega
  ·rw[if_neg hcap];have hl:=Y1 he (.inr ⟨cap,rest,rfl,hbk,hr,hle⟩:dL enc n T h (.slice (some ⟨bl,0,none⟩) xs.length cap) bl xs);obtain⟨b0,c0,e0,hl⟩:=hl;injection e0 with e0 _ _;subst e0;rw[hl];have hc:=j cap (by omega);exact⟨hc.1,hc.2,λc h1 h2=>fresh c h1⟩
theorem dL.set{sz:Nat}{w:Value}{i:Nat}{a:α}{KH:KT}{q:Value}(he:∀a,(enc a).length=n)(hp:∀u∈enc a,plainCell u=true)
  (H:dL enc n T h v bl xs) (hi:i<xs.length) (hq:q=.pointer (some ⟨bl,i*n,none⟩)) (hw:w.cells.toList=enc a) (hsz:sz=n)
  (hK:∀h',dL enc n T h' v bl (xs.set i a)->bB (λb=>b=bl) h h'->h'.size=h.size->KH undef h'):aC sz q w h KH:=by
 rw[hsz];obtain⟨cap,rest,rfl,hb,hr,hle⟩:=H.full (by omega);have e:w.cells.size=n:=by rw[<-he a,<-hw];simp
 have f:=gi he xs;have hmul:(i+1)*n<=xs.length*n:=Nat.mul_le_mul_right n hi;rw[Nat.succ_mul]at hmul;refine mg hq hb e (by rw[e,List.length_append,f];omega) (by rw[hw];exact hp) ?_;rw[hw,vF he hi];exact hK _ (.inr ⟨cap,rest,by simp,gA hb,by simpa using hr,by simpa using hle⟩) (bB.bn _ _ rfl) gx
def jK(enc:α->List Value)(n:Nat)(h:aa)(v:Value)(bl:Nat)(ys:List α):Prop:=
 ∃base cap,v=.slice base ys.length cap/\ys.length<=cap/\((ys=[]/\(base=none\/∃b o,base=some ⟨b,o,none⟩))\/
  ∃o pre post T fz,base=some ⟨bl,o,none⟩/\h[bl]? =some (.cells (pre++row enc ys++post).toArray T fz)/\pre.length=o)
theorem jK.bn{S:Nat->Prop}(H:jK enc n h v bl ys)(hu:bB S h h')(hn:¬S bl):jK enc n h' v bl ys:=by
 obtain⟨base,cap,rfl,hc,H⟩:=H;refine⟨base,cap,rfl,hc,?_⟩;rcases H with H|⟨o,pre,post,T,fz,a,b,c⟩
 ·exact .inl H
 ·exact .inr ⟨o,pre,post,T,fz,a,hu.get b hn,c⟩
theorem dL.view(H:dL enc n T h v bl xs):jK enc n h v bl xs:=by
 rcases H with ⟨rfl,rfl⟩|⟨cap,rest,rfl,hb,_,hle⟩
 ·exact⟨none,0,rfl,Nat.le_refl _,.inl ⟨rfl,.inl rfl⟩⟩
 ·exact⟨_,_,rfl,hle,.inr ⟨0,[],rest,T,_,rfl,hb,rfl⟩⟩
theorem jK.cells(he:∀a,(enc a).length=n)(H:jK enc n h v bl ys):∃base cap,v=.slice base ys.length cap/\gM h n ys.length base=some (row enc ys):=by
 obtain⟨base,cap,rfl,hc,H⟩:=H;refine⟨base,cap,rfl,?_⟩;rcases H with ⟨rfl,rfl|⟨b,o,rfl⟩⟩|⟨o,pre,post,T,fz,rfl,hb,ho⟩
 ·rfl
 ·simp[gM,gL,row]
 ·have hl:=gi he ys;simp only[gM];rw[qV (i:=0) hb _ o (by simp[hl];omega)];rw[List.append_assoc,<-ho,List.drop_left',<-hl,List.take_left']
  ·rfl
  ·rfl
theorem jK.sub{lo hi:Option Value}{K:Value->Prop}{i j:Nat}(he:∀a,(enc a).length=n)(H:jK enc n h v bl ys)(hlo:jk 0 lo=some (i:Int))(hhi:jk ys.length hi=some (j:Int))(hij:i<=j)(hj:j<=ys.length)
  (hK:∀v',jK enc n h v' bl ((ys.drop i).take (j-i))->K v'):dY n v lo hi none K:=by
 obtain⟨base,cap,rfl,hc,H⟩:=H;simp only[dY,hlo,hhi];rw[show jk cap none=some (cap:Int)from rfl];dsimp only;refine⟨by simp,by omega,by omega,by omega,Int.le_refl _,?_⟩;refine hK _ ⟨_,_,by rw[show((j:Int).toNat-(i:Int).toNat)=((ys.drop i).take (j-i)).length by simp;omega],by simp;omega,?_⟩;simp only[Int.toNat_natCast];unfold fN;by_cases e:cap=i
 ·rw[if_pos e];have :(ys.drop i).take (j-i)=[]:=by
   apply List.eq_nil_of_length_eq_zero;simp;omega
  rcases H with ⟨_,hb⟩|⟨o,pre,post,T,fz,rfl,hb,ho⟩
  ·exact .inl ⟨this,hb⟩
  ·exact .inl ⟨this,.inr ⟨_,_,rfl⟩⟩
 ·rw [if_neg e];rcases H with ⟨rfl,rfl|⟨b,o,rfl⟩⟩|⟨o,pre,post,T,fz,rfl,hb,ho⟩
  ·exact .inl ⟨by simp,.inl rfl⟩
  ·exact .inl ⟨by simp,.inr ⟨_,_,rfl⟩⟩
  ·refine .inr ⟨o+i*n,pre++row enc (ys.take i),row enc ((ys.drop i).drop (j-i))++post,T,fz,rfl,?_,?_⟩
   ·rw[hb];have :row enc ys=row enc (ys.take i)++(row enc ((ys.drop i).take (j-i))++row enc ((ys.drop i).drop (j-i))):=by
     rw[<-oH,List.take_append_drop,<-oH,List.take_append_drop]
    rw[this];simp[List.append_assoc]
   ·rw[List.length_append,gi he,ho];simp;rw[Nat.min_eq_left (by omega)]
theorem jK.ta(H:jK enc n h v bl ys){K:Value->Prop}(hk:K (.int .i64 ys.length)):bx v K:=by
 obtain⟨b,c,rfl,_⟩:=H;exact hk
theorem dL.pre{k:IntKind}{K:Value->Prop}{j:Nat}(H:dL enc n T h v bl xs)(he:∀a,(enc a).length=n)(hj:j<=xs.length)
  (hK:∀v',dL enc n T h v' bl (xs.take j)->K v'):dY n v none (some (.int k j)) none K:=by
 rcases H with ⟨rfl,rfl⟩|⟨cap,rest,rfl,hb,hr,hle⟩
 ·have :j=0:=by simpa using hj
  subst this;refine⟨by simp,by simp,by simp,by simp,by simp,hK _ (.inl ⟨by simp[fN],by simp⟩)⟩
 ·refine⟨by simp,by simp,by omega,by omega,Int.le_refl _,hK _ (.inr ⟨cap,row enc (xs.drop j)++rest,?_,?_,?_,?_⟩)⟩
  ·have :fN n 0 cap (some ⟨bl,0,none⟩)=some ⟨bl,0,none⟩:=by simp[fN]
   simp[this,hj]
  ·rw[hb,<-List.append_assoc,<-oH,List.take_append_drop]
  ·rw[List.length_append,gi he,hr];simp only[List.length_drop,List.length_take,Nat.min_eq_left hj];rw[<-Nat.add_mul];congr 1;omega
  ·simp;omega
theorem Y2{bytes:Nat}{k k':IntKind}{m:Nat}{a:α}{K:KT}(hb:(bytes:Int)*m<=2^48)(hm:m<2^63)
  (hK:∀w h',dL enc n T h' w h.size (List.replicate m a)->Ext h h'->h'.size=h.size+1->K w h'):c9 T bytes (enc a) (.int k m) (.int k' m) h K:=by
 refine⟨by omega,Int.le_refl _,hb,by omega,?_⟩;refine hK _ _ (.inr ⟨m,[],by simp,?_,by simp,by simp⟩) (bB.push _ _ _) pT;rw[fO];have :row enc (List.replicate m a)=(List.replicate m (enc a)).flatten:=by simp[row,List.flatMap]
 simp[this]
theorem jK.idx{k:IntKind}{K:Value->Prop}{i:Nat}(he:∀a,(enc a).length=n)(H:jK enc n h v bl ys)(hi:i<ys.length)
  (hK:∀o,(∀j,j<n->hcell h ⟨bl,o+j,none⟩=(enc ys[i])[j]?)->K (.pointer (some ⟨bl,o,none⟩))):aW n v (.int k i) K:=by
 obtain⟨base,cap,rfl,hc,H⟩:=H;rcases H with ⟨rfl,_⟩|⟨o,pre,post,T,fz,rfl,hb,ho⟩
 ·simp at hi
 ·rw[JE];refine⟨⟨by omega,by omega⟩,?_⟩;simp only[Int.toNat_natCast];refine hK _ λj hj=> ?_;rw[aY hb (v:=(enc ys[i])[j]'(by rw[he];exact hj)) (by
   have :=qW he hi hj post;rw[List.getElem?_toArray,List.append_assoc,List.getElem?_append_right (by omega),show o+i*n+j-pre.length=i*n+j by omega,this];simp)]
  simp
end
open Go Go.ChangeShapes Go.WideShapes Go.ChangeAt Go.RowKit
section
variable{H:Type}{iX:TypeId×Value->H}{P:Program}{w:World}{α:Type}{enc:α->List Value}{ok:α->Prop}{n:Nat}{e t:TypeId}{v:Value}{r:Reach}{base:Nat}{d:DataW H}{p:List MemPlace}
theorem add_plain{a:Addr}(hs:a.spot=none)(k:Nat):a.add k=⟨a.block,a.off+k,none⟩:=by
 obtain⟨b,o,s⟩:=a;simp only at hs;subst hs;unfold Addr.add;split
 ·rename_i h;subst h;rfl
 ·rfl
theorem JK{β γ:Type}{f:β->Option γ}:∀{l:List β}{r:List γ},l.mapM f=some r->∀(i:Nat)(x:β),l[i]? =some x->f x=r[i]?
 | [],r,h,i,x,hx=>by simp at hx
 |y::l,r,h,i,x,hx=>by
  rw[List.mapM_cons]at h;simp only[Option.pure_def,Option.bind_eq_bind,Option.bind_eq_some_iff]at h;obtain⟨z,hz,rs,a,hr⟩:=h;simp only[Option.some.injEq]at hr;subst hr;cases i with
  |zero=>simp at hx;subst hx;simp[hz]
  |succ i=>simp at hx;simpa using JK a i x hx
theorem JL{Q:Nat->α->Prop}:∀len,(∀i,i<len->∃x,Q i x)->∃xs:List α,xs.length=len/\∀i(hi:i<xs.length),Q i xs[i]
 |0,_=>⟨[],rfl,λi hi=>by simp at hi⟩
 | len+1,hall=>by
  obtain⟨xs,hl,hxs⟩:=JL len λi hi=>hall i (by omega);obtain⟨x,h1⟩:=hall len (by omega);refine⟨xs++ [x],by simp[hl],λi hi=> ?_⟩;by_cases hlt:i<xs.length
  ·rw[List.getElem_append_left hlt];exact hxs i hlt
  ·have :i=len:=by simp at hi;omega
   subst this;rw[List.getElem_append_right (by omega)];simpa[hl]using h1
theorem C2{k:IntKind}(he:P.underlying e=some (.int k)){sp:Nat->Bool}:∀fuel cs x,DataW.trod iX P w 0 sp true fuel e cs=some x->∃a:Int,cs=[.int k a]/\k.min<=a/\a<=k.max:=by
 intro fuel cs x h;obtain⟨n',rfl,_,hw⟩:=DataW.trod_int he h;refine⟨n',rfl,?_⟩;simpa[Lit.wf]using hw
end
open Go
abbrev dr:=Int×Value×Nat
def cr(x:dr):MapEntry:={key:=.int .i64 x.1,val:=x.2.1,born:=x.2.2}
def lk(k:Int):List dr->Option Value
 | []=>none
 |x::r=>if x.1=k then some x.2.1 else lk k r
def fi(k:Int):List dr->Nat->Option (Nat×Value)
 | [],_=>none
 |x::r,j=>if x.1=k then some (j,x.2.1)else fi k r (j+1)
structure kg(es:Array MapEntry)(clock:Nat)(t:List dr):Prop where
 gB:es.toList=t.map cr
 keys:(t.map (·.1)).Nodup
 pU:(t.map (·.2.2)).Nodup
 old:∀x∈t,x.2.2<clock
def IMap(es:Array MapEntry)(clock:Nat)(f:Int->Option Value):Prop:=∃t,kg es clock t/\∀k,f k=lk k t
def cu(f:Int->Option Value)(k:Int)(v:Value):Int->Option Value:=λx=>if x=k then some v else f x
def vJ(f:Int->Option Value)(k:Int):Int->Option Value:=λx=>if x=k then none else f x
theorem zb(f:Int->Option Value)(k:Int)(x y:Value):cu (cu f k x) k y=cu f k y:=by
 funext z;unfold cu;split<;>rfl
theorem qY(k:Int):∀(t:List dr)(j:Nat),Instr.findNow (.int .i64) (.int .i64 k) (t.map cr) j=some (fi k t j)
 | [],j=>rfl
 | x::t,j=>by
  simp only[List.map_cons,Instr.findNow,cr,Instr.sameNow,if_true];by_cases h:x.1=k
  ·subst h;simp[fi]
  ·have :(k==x.1)=false:=by simpa using λe=>h e.symm
   rw[this];simp only[fi,if_neg h];exact qY k t (j+1)
theorem oJ(k:Int):∀(t:List dr)(j:Nat),(fi k t j).map (·.2)=lk k t
 | [],_=>rfl
 |x::t,j=>by
  simp only[fi,lk];split
  ·rfl
  ·exact oJ k t (j+1)
theorem pV{k:Int}:∀{t:List dr}{j:Nat},fi k t j=none->∀x∈t,x.1≠k
 | [],_,_=>by intro x hx;cases hx
 | x::t,j,h=>by
  simp only[fi]at h;split at h
  ·cases h
  ·rename_i hx;intro y hy;rcases List.mem_cons.1 hy with rfl|hy
   ·exact hx
   ·exact pV h y hy
theorem tc{k:Int}:∀{t:List dr},(∀x∈t,x.1≠k)->lk k t=none
 | [],_=>rfl
 |x::t,h=>by
  simp only[lk,if_neg (h x List.mem_cons_self)];exact tc λy hy=>h y (List.mem_cons_of_mem _ hy)
theorem C3{k:Int}{t s:List dr}:lk k (t++s)=(lk k t).orElse λ_=>lk k s:=by
 induction t with
 |nil=>rfl
 |cons x t ih=>
  simp only[List.cons_append,lk];split
  ·rfl
  ·exact ih
theorem qZ{k:Int}{g:dr->dr}:∀{t:List dr}{j i:Nat}{v:Value},(t.map (·.1)).Nodup->fi k t j=some (i,v)->
  j<=i/\t.modify (i-j) g=t.map (λx=>if x.1=k then g x else x)
 | x::t,j,i,v,hn,h=>by
  simp only[List.map_cons,List.nodup_cons]at hn;simp only[fi]at h;split at h
  ·rename_i hx;simp only[Option.some.injEq,Prod.mk.injEq]at h;obtain⟨rfl,rfl⟩:=h;refine⟨Nat.le_refl _,?_⟩;simp only[Nat.sub_self,List.modify_zero_cons,List.map_cons,if_pos hx];congr 1;have :∀y∈t,y.1≠k:=λy hy e=>hn.1 (by rw[hx,<-e];exact List.mem_map_of_mem hy);symm;rw[List.map_congr_left (g:=id) (λy hy=>by simp[this y hy])];simp
  ·rename_i hx;obtain⟨h1,h2⟩:=qZ (g:=g) hn.2 h;refine⟨by omega,?_⟩;rw[show i-j=(i-(j+1))+1 by omega];simp only[List.modify_succ_cons,List.map_cons,if_neg hx,h2]
theorem JM{k:Int}:∀{t:List dr}{j i:Nat}{v:Value},(t.map (·.1)).Nodup->fi k t j=some (i,v)->
  j<=i/\i-j<t.length/\t.eraseIdx (i-j)=t.filter (λx=>x.1≠k)
 | x::t,j,i,v,hn,h=>by
  simp only[List.map_cons,List.nodup_cons]at hn;simp only[fi]at h;split at h
  ·rename_i hx;simp only[Option.some.injEq,Prod.mk.injEq]at h;obtain⟨rfl,rfl⟩:=h;refine⟨Nat.le_refl _,by simp,?_⟩;have :∀y∈t,y.1≠k:=λy hy e=>hn.1 (by rw[hx,<-e];exact List.mem_map_of_mem hy);simp only[Nat.sub_self,List.eraseIdx_zero,List.tail_cons];rw[List.filter_cons_of_neg (by simp[hx]),List.filter_eq_self.2 (λy hy=>by simpa using this y hy)]
  ·rename_i hx;obtain⟨h1,h2,h3⟩:=JM hn.2 h;refine⟨by omega,by simp;omega,?_⟩;rw[show i-j=(i-(j+1))+1 by omega];simp only[List.eraseIdx_cons_succ,h3];rw[List.filter_cons_of_pos (by simpa using hx)]
theorem vK{k k':Int}{v:Value}:∀{t:List dr},lk k' (t.map λx=>if x.1=k then(x.1,v,x.2.2)else x)=if k'=k then(lk k t).map (λ_=>v)else lk k' t
 | []=>by simp[lk]
 | x::t=>by
  have ih:=vK (k:=k) (k':=k') (v:=v) (t:=t);simp only[List.map_cons,lk];by_cases hx:x.1=k
  ·simp only[if_pos hx];by_cases hk:k'=k
   ·simp[hk,hx]
   ·have :¬x.1=k':=λe=>hk (by rw[<-e,hx]);simp only[this,if_false,hk]at ih ⊢;exact ih
  ·simp only[if_neg hx];by_cases hk:x.1=k'
   ·have :¬k'=k:=λe=>hx (by rw[hk,e]);simp[hk,this]
   ·simp only[if_neg hk];exact ih
theorem JN{k k':Int}:∀{t:List dr},lk k' (t.filter λx=>x.1≠k)=if k'=k then none else lk k' t
 | []=>by simp[lk]
 | x::t=>by
  have ih:=JN (k:=k) (k':=k') (t:=t);by_cases hx:x.1=k
  ·rw[List.filter_cons_of_neg (by simp[hx]),ih];simp only[lk];by_cases hk:k'=k
   ·simp[hk]
   ·have :¬x.1=k':=λe=>hk (by rw[<-e,hx]);simp[hk,this]
  ·rw[List.filter_cons_of_pos (by simpa using hx)];simp only[lk,ih];by_cases hk:x.1=k'
   ·have :¬k'=k:=λe=>hx (by rw[hk,e]);simp[hk,this]
   ·simp[hk]
theorem IMap.congr{es:Array MapEntry}{c:Nat}{f g:Int->Option Value}(h:IMap es c f)(hfg:∀k,f k=g k):IMap es c g:=by
 obtain⟨t,ht,hf⟩:=h;exact⟨t,ht,λk=>(hfg k).symm.trans (hf k)⟩
theorem IMap.empty:IMap #[] 0 (λ_=>none):=⟨[],⟨rfl,by simp,by simp,by simp⟩,λ_=>rfl⟩
theorem map_eraseIdx{α β:Type}(g:α->β):∀(t:List α)(i:Nat),(t.eraseIdx i).map g=(t.map g).eraseIdx i
 | [],_=>by simp
 |_::_,0=>by simp
 |x::t,i+1=>by simp[map_eraseIdx g t i]
section
variable{h:aa}{m c:Nat}{es:Array MapEntry}{f:Int->Option Value}
theorem td{z:Value}{ok:Bool}{k:Int}{K:Value->Prop}(hm:h[m]? =some (.map es c))(hi:IMap es c f)
  (hk:K (if ok then .tuple #[(f k).getD z,.bool (f k).isSome]else(f k).getD z)):de (.int .i64) z ok h (.map (some m)) (.int .i64 k) K:=by
 obtain⟨t,ht,hf⟩:=hi;simp only[de,hm,ht.gB,yH,qY];have hlk:=oJ k t 0;rw[hf k,<-hlk]at hk;cases a:fi k t 0 with
 |none=>rw[a]at hk;simpa using hk
 |some p=>rw[a]at hk;simpa using hk
theorem kg.set {t:List dr} {i:Nat} {k:Int} {v old:Value} (ht:kg es c t) (a:fi k t 0=some (i,old)):
  kg (es.modify i λe=>{e with key:=.int .i64 k,val:=v}) c (t.map λx=>if x.1=k then(x.1,v,x.2.2)else x):=by
 have hm:=(qZ (g:=λx=>(x.1,v,x.2.2)) ht.keys a).2;rw[Nat.sub_zero]at hm;refine⟨?_,?_,?_,?_⟩
 ·rw [Array.toList_modify,ht.gB,<-hm];apply List.ext_getElem
  ·simp
  ·intro j h1 h2;simp only[List.getElem_modify,List.getElem_map];split
   ·rename_i e;subst e;have hlt:i<t.length:=by simpa using h1
    have :(t.modify i λx=>(x.1,v,x.2.2))[i]? =(t.map λx=>if x.1=k then(x.1,v,x.2.2)else x)[i]? :=by rw[hm]
    have hkey:t[i].1=k:=by
     have key:∀(t:List dr)(j i:Nat),fi k t j=some (i,old)->∃hlt:i-j<t.length,t[i-j].1=k/\j<=i:=by
      intro t
      induction t with
      |nil=>intro j i h;cases h
      | cons x t ih=>
       intro j i h;simp only[fi]at h;split at h
       ·rename_i hx;simp only[Option.some.injEq,Prod.mk.injEq]at h;obtain⟨rfl,_⟩:=h;exact⟨by simp,by simpa using hx,Nat.le_refl _⟩
       ·obtain⟨h1,h2,h3⟩:=ih _ _ h;refine⟨by simp;omega,?_,by omega⟩;have :i-j=(i-(j+1))+1:=by omega
        simp only[this,List.getElem_cons_succ];exact h2
     obtain⟨_,h2,_⟩:=key t 0 i a;simpa using h2
    simp[cr,hkey]
   ·rfl
 ·have :(t.map λx=>if x.1=k then(x.1,v,x.2.2)else x).map (·.1)=t.map (·.1):=by
   rw[List.map_map];apply List.map_congr_left;intro x _;simp only[Function.comp];split<;>rfl
  rw[this];exact ht.keys
 ·have :(t.map λx=>if x.1=k then(x.1,v,x.2.2)else x).map (·.2.2)=t.map (·.2.2):=by
   rw[List.map_map];apply List.map_congr_left;intro x _;simp only[Function.comp];split<;>rfl
  rw[this];exact ht.pU
 ·intro x hx;obtain⟨y,hy,rfl⟩:=List.mem_map.1 hx;have :=ht.old y hy;split<;>exact this
theorem kg.push{t:List dr}{k:Int}{v:Value}(ht:kg es c t)(d:fi k t 0=none):
  kg (es.push {key:=.int .i64 k,val:=v,born:=c}) (c+1) (t++ [(k,v,c)]):=by
 refine⟨by simp[ht.gB,cr],?_,?_,?_⟩
 ·rw[List.map_append,List.nodup_append];refine⟨ht.keys,by simp,?_⟩;intro a ha b hb;obtain⟨x,hx,rfl⟩:=List.mem_map.1 ha;simp only[List.map_cons,List.map_nil,List.mem_singleton]at hb;subst hb;exact pV d x hx
 ·rw[List.map_append,List.nodup_append];refine⟨ht.pU,by simp,?_⟩;intro a ha b hb;obtain⟨x,hx,rfl⟩:=List.mem_map.1 ha;simp only[List.map_cons,List.map_nil,List.mem_singleton]at hb;subst hb;exact Nat.ne_of_lt (ht.old x hx)
 ·intro x hx;rcases List.mem_append.1 hx with hx|hx
  ·exact Nat.lt_succ_of_lt (ht.old x hx)
  ·rw[List.mem_singleton.1 hx];exact Nat.lt_succ_self _
theorem tf{t:List dr}{k:Int}{v old:Value}{i:Nat}(a:fi k t 0=some (i,old))(x:Int):
  lk x (t.map λx=>if x.1=k then(x.1,v,x.2.2)else x)=if x=k then some v else lk x t:=by
 rw[vK];split
 ·rw[<-oJ k t 0,a];rfl
 ·rfl
theorem zc{t:List dr}{k:Int}{v:Value}{b:Nat}(a:fi k t 0=none)(x:Int):
  lk x (t++ [(k,v,b)])=if x=k then some v else lk x t:=by
 rw[C3];by_cases hx:x=k
 ·subst hx;rw[tc (pV a)];simp[lk]
 ·have :¬k=x:=λe=>hx e.symm;simp[hx,lk,this]
theorem JO{k:Int}{v:Value}{K:KT}(hm:h[m]? =some (.map es c))(hi:IMap es c f)
  (hk:∀es' c',IMap es' c' (cu f k v)->K undef (bn h m (.map es' c'))):dQ (.int .i64) (.map (some m)) (.int .i64 k) v h K:=by
 obtain⟨t,ht,hf⟩:=hi;simp only[dQ,hm,ht.gB,yH,qY];cases a:fi k t 0 with
 |none=>exact hk _ _ ⟨_,ht.push a,λx=>by rw[zc a];simp[cu,hf]⟩
 |some p=>exact hk _ _ ⟨_,ht.set a,λx=>by rw[tf a];simp[cu,hf]⟩
def vL(es:Array MapEntry)(s k:Int):Prop:=∃e∈es.toList,e.key=.int .i64 k/\(e.born:Int)=s
theorem vM{k:Int}{z:Value}{K:KT}(hm:h[m]? =some (.map es c))(hi:IMap es c f)
  (hk:∀es' c' s,IMap es' c' (cu f k ((f k).getD z))->vL es' s k->K (.tuple #[(f k).getD z,.int .i64 s]) (bn h m (.map es' c'))):
  j8 (.int .i64) z (.map (some m)) (.int .i64 k) h K:=by
 obtain⟨t,ht,hf⟩:=hi;simp only[j8,hm,ht.gB,yH,qY];have hlk:=oJ k t 0;cases a:fi k t 0 with
 |none=>
  rw[a]at hlk;have b:f k=none:=by rw[hf];exact hlk.symm
  rw[b]at hk;refine hk _ _ _ ⟨_,ht.push a,λx=>by rw[zc a];simp[cu,hf]⟩ ⟨{key:=.int .i64 k,val:=z,born:=c},by simp,rfl,rfl⟩
 | some p=>
  obtain⟨i,v⟩:=p;rw[a]at hlk;have b:f k=some v:=by rw[hf];exact hlk.symm
  rw[b]at hk;have e8:=ht.set (v:=v) a;obtain⟨_,hmod⟩:=qZ (g:=λx=>x) ht.keys a;have hi:i<t.length:=by
   have key:∀(t:List dr)(j i:Nat),fi k t j=some (i,v)->i-j<t.length/\j<=i:=by
    intro t
    induction t with
    |nil=>intro j i h;cases h
    | cons x t ih=>
     intro j i h;simp only[fi]at h;split at h
     ·simp only[Option.some.injEq,Prod.mk.injEq]at h;obtain⟨rfl,_⟩:=h;exact⟨by simp,Nat.le_refl _⟩
     ·obtain⟨h1,h2⟩:=ih _ _ h;exact⟨by simp;omega,by omega⟩
   simpa using(key t 0 i a).1
  have d:es[i]? =some (cr t[i]):=by
   rw[<-Array.getElem?_toList,ht.gB];simp[hi]
  have l:t[i].1=k/\t[i].2.1=v:=by
   obtain⟨_,e,he,hv,hs⟩:=yN (by rw[qY,a]:Instr.findNow (.int .i64) (.int .i64 k) (t.map cr) 0=some (some (i,v)));simp[hi]at he;subst he;simp[cr,Instr.sameNow]at hv hs;exact⟨hs.symm,hv⟩
  have hsame:(es.modify i λe=>{e with key:=.int .i64 k})=es.modify i λe=>{e with key:=.int .i64 k,val:=v}:=by
   apply Array.ext
   ·simp
   ·intro j h1 h2;simp only[Array.getElem_modify];split
    ·rename_i e;subst e;have hlt:i<es.size:=by simpa using h1
     have :es[i]? =some es[i]:=Array.getElem?_eq_getElem hlt;rw[d]at this;simp only[Option.some.injEq]at this;rw[<-this];simp[cr,l.2]
    ·rfl
  dsimp only;rw[hsame,d];refine hk _ _ _ ⟨_,e8,λx=>by rw[tf a];simp[cu,hf]⟩ ?_;refine⟨{(cr t[i])with key:=.int .i64 k,val:=v},?_,rfl,rfl⟩;rw[Array.toList_modify];refine List.mem_of_getElem? (i:=i) ?_;simp[d]
theorem vN{k s:Int}{v:Value}{K:KT}(hm:h[m]? =some (.map es c))(hi:IMap es c f)(hs:vL es s k)
  (hk:∀es',IMap es' c (cu f k v)->K undef (bn h m (.map es' c))):jF (.map (some m)) (.int .i64 s) v h K:=by
 obtain⟨t,ht,hf⟩:=hi;obtain⟨e,he,a,b⟩:=hs;rw[ht.gB]at he;obtain⟨x,hx,rfl⟩:=List.mem_map.1 he;simp only[cr,Value.int.injEq,true_and]at a b;have g:x.1=k:=by simpa using a
 simp only[jF,hm];have key:∀(t:List dr),(t.map (·.1)).Nodup->(t.map (·.2.2)).Nodup->x∈t->∃i,(t.map cr).findIdx? (λe=>(e.born:Int)==s)=some i/\∀j,fi k t j=some (i+j,x.2.1):=by
  intro t
  induction t with
  |nil=>intro _ _ hx;cases hx
  | cons y t ih=>
   intro hk hb hx;simp only[List.map_cons,List.nodup_cons]at hk hb;by_cases hy:y=x
   ·subst hy;refine⟨0,?_,λj=>by simp[fi,g]⟩;simp[List.findIdx?_cons,cr,b]
   ·have hx':x∈t:=by
     rcases List.mem_cons.1 hx with h|h
     ·exact(hy h.symm).elim
     ·exact h
    obtain⟨i,h1,h2⟩:=ih hk.2 hb.2 hx';have l:¬((y.2.2:Int)=s):=by
     rw[<-b];intro e;have :y.2.2=x.2.2:=by exact_mod_cast e
     exact hb.1 (this▸List.mem_map_of_mem hx')
    have n:y.1≠k:=λe=>hk.1 (by rw[e,<-g];exact List.mem_map_of_mem hx');refine⟨i+1,?_,λj=> ?_⟩
    ·rw[List.map_cons,List.findIdx?_cons];simp only[cr,beq_iff_eq,l,if_false];rw[show(λ(e:MapEntry)=>(e.born:Int)==s)=λe=>(e.born:Int)==s from rfl,h1];rfl
    ·simp only[fi,if_neg n];rw[h2 (j+1)];congr 2;omega
 obtain⟨i,h1,h2⟩:=key t ht.keys ht.pU hx;have hidx:es.findIdx? (λe=>(e.born:Int)==s)=some i:=by
  have e:es=(t.map cr).toArray:=Array.ext' ht.gB;rw[e,List.findIdx?_toArray];exact h1
 rw[hidx];have d:fi k t 0=some (i,x.2.1):=by simpa using h2 0
 have e8:=ht.set (v:=v) d;have hsame:(es.modify i λe=>{e with val:=v})=es.modify i λe=>{e with key:=.int .i64 k,val:=v}:=by
  obtain⟨_,e,he,_,hs⟩:=yN (by rw[qY,d]:Instr.findNow (.int .i64) (.int .i64 k) (t.map cr) 0=some (some (i,x.2.1)));rw[Nat.sub_zero,<-ht.gB,Array.getElem?_toList]at he;apply Array.ext
  ·simp
  ·intro j h1 h2;simp only[Array.getElem_modify];split
   ·rename_i e2;subst e2;have hlt:i<es.size:=by simpa using h1
    have h3:es[i]? =some es[i]:=Array.getElem?_eq_getElem hlt;rw[he]at h3;simp only[Option.some.injEq]at h3;have a:e∈es.toList:=by rw[<-Array.getElem?_toList]at he;exact List.mem_of_getElem? he
    rw[ht.gB]at a;obtain⟨y,_,rfl⟩:=List.mem_map.1 a;rw[<-h3];simp only[cr,Instr.sameNow,if_true,Option.some.injEq,beq_iff_eq]at hs;simp[cr,hs]
   ·rfl
 dsimp only;rw[hsame];exact hk _ ⟨_,e8,λx=>by rw[tf d];simp[cu,hf]⟩
theorem Y3{k:Int}{K:KT}(hm:h[m]? =some (.map es c))(hi:IMap es c f)
  (hk:∀es',IMap es' c (vJ f k)->K (.tuple #[]) (bn h m (.map es' c))):qK (.int .i64) (.map (some m)) (.int .i64 k) h K:=by
 obtain⟨t,ht,hf⟩:=hi;simp only[qK,hm,ht.gB,yH,qY];cases a:fi k t 0 with
 |none=>
  refine hk es ⟨t,ht,λx=> ?_⟩;unfold vJ;split
  ·rename_i e;subst e;exact(tc (pV a)).symm
  ·exact hf x
 | some p=>
  obtain⟨i,v⟩:=p;obtain⟨_,hlt,b⟩:=JM ht.keys a;rw[Nat.sub_zero]at hlt b;have hsz:i<es.size:=by
   have :=congrArg List.length ht.gB;simp at this;omega
  have d:(es.eraseIdxIfInBounds i).toList=(t.filter λx=>x.1≠k).map cr:=by
   unfold Array.eraseIdxIfInBounds;rw[dif_pos hsz,Array.toList_eraseIdx,ht.gB,<-b,map_eraseIdx]
  refine hk _ ⟨t.filter λx=>x.1≠k,⟨d,?_,?_,?_⟩,λx=> ?_⟩
  ·exact(List.filter_sublist.map _).nodup ht.keys
  ·exact(List.filter_sublist.map _).nodup ht.pU
  ·intro x hx;exact ht.old x (List.mem_filter.1 hx).1
  ·rw[JN];unfold vJ;split
   ·rfl
   ·exact hf x
end
open Go
structure aM where
 F:Nat->Prop
 Q:aa->Prop
 st:∀{h h':aa},(∀b,F b->h'[b]? =h[b]?)->Q h->Q h'
def gO:aM:=⟨λ_=>False,λ_=>True,λ_ _=>trivial⟩
structure Own(h0 h:aa)(L:List aM):Prop where
 ext:Ext h0 h
 q:∀{i:Nat}{r:aM},L[i]? =some r->r.Q h/\∀b,r.F b->h0.size<=b/\b<h.size
 ap:∀{i j:Nat}{r s:aM},L[i]? =some r->L[j]? =some s->i≠j->∀b,r.F b->¬s.F b
section
variable{h0 h h':aa}{L L':List aM}{r r':aM}{i j:Nat}
theorem Own.start(h:aa):Own h h []:=⟨.refl _ _,λh=>by simp at h,λh=>by simp at h⟩
theorem Own.get(o:Own h0 h L)(i:Nat)(hi:L[i]? =some r):r.Q h:=(o.q hi).1
theorem Own.more(o:Own h0 h L)(x:Ext h h'):Own h0 h' L:=
 ⟨o.ext.trans x λ_ hf _=>hf,λhi=>⟨aM.st _ (λb hb=>x.same b ((o.q hi).2 b hb).2 id) (o.q hi).1,λb hb=>⟨((o.q hi).2 b hb).1,Nat.lt_of_lt_of_le ((o.q hi).2 b hb).2 x.size⟩⟩,o.ap⟩
theorem Own.frame(o:Own h0 h L)(o':Own h h' L'):Own h0 h' (L'++L):=by
 have o1:=o.more o'.ext;refine⟨o1.ext,λ{i r} hi=> ?_,λ{i j r s} hi hj hne b hb hs=> ?_⟩
 ·by_cases hlt:i<L'.length
  ·rw[List.getElem?_append_left hlt]at hi;exact⟨(o'.q hi).1,λb hb=>⟨Nat.le_trans o.ext.size ((o'.q hi).2 b hb).1,((o'.q hi).2 b hb).2⟩⟩
  ·rw[List.getElem?_append_right (by omega)]at hi;exact o1.q hi
 ·by_cases h1:i<L'.length<;>by_cases h2:j<L'.length
  ·rw[List.getElem?_append_left h1]at hi;rw[List.getElem?_append_left h2]at hj;exact o'.ap hi hj hne b hb hs
  ·rw[List.getElem?_append_left h1]at hi;rw[List.getElem?_append_right (by omega)]at hj;have a:=((o'.q hi).2 b hb).1;have c:=((o.q hj).2 b hs).2;omega
  ·rw[List.getElem?_append_right (by omega)]at hi;rw[List.getElem?_append_left h2]at hj;have a:=((o'.q hj).2 b hs).1;have c:=((o.q hi).2 b hb).2;omega
  ·rw[List.getElem?_append_right (by omega)]at hi;rw[List.getElem?_append_right (by omega)]at hj;exact o.ap hi hj (by omega) b hb hs
theorem Own.set(o:Own h0 h L)(i:Nat)(hi:L[i]? =some r)(u:bB r.F h h')(q:r'.Q h')(g:∀b,r'.F b->(r.F b\/h.size<=b)/\b<h'.size):Own h0 h' (L.set i r'):=by
 have hlt:i<L.length:=(List.getElem?_eq_some_iff.1 hi).1;have key:∀{j s},(L.set i r')[j]? =some s->(j=i/\s=r')\/(j≠i/\L[j]? =some s):=by
  intro j s hs;by_cases e:j=i
  ·subst e;rw[List.getElem?_set_self hlt]at hs;exact .inl ⟨rfl,(Option.some.inj hs).symm⟩
  ·rw[List.getElem?_set_ne (λe'=>e e'.symm)]at hs;exact .inr ⟨e,hs⟩
 refine⟨o.ext.trans u λb hb hlt=> ?_,λ{j s} hs=> ?_,λ{j k s t} hs ht hne b hb hb'=> ?_⟩
 ·have :=((o.q hi).2 b hb).1;omega
 ·rcases key hs with ⟨rfl,rfl⟩|⟨hne,hs⟩
  ·refine⟨q,λb hb=>⟨?_,(g b hb).2⟩⟩;rcases(g b hb).1 with h1|h1
   ·exact((o.q hi).2 b h1).1
   ·exact Nat.le_trans o.ext.size h1
  ·refine⟨aM.st _ (λb hb=>u.same b ((o.q hs).2 b hb).2 (o.ap hs hi hne b hb)) (o.q hs).1,λb hb=>⟨((o.q hs).2 b hb).1,Nat.lt_of_lt_of_le ((o.q hs).2 b hb).2 u.size⟩⟩
 ·rcases key hs with ⟨rfl,rfl⟩|⟨n1,hs1⟩<;>rcases key ht with ⟨rfl,rfl⟩|⟨n2,ht1⟩
  ·exact hne rfl
  ·rcases(g b hb).1 with h1|h1
   ·exact o.ap hi ht1 hne b h1 hb'
   ·have :=((o.q ht1).2 b hb').2;omega
  ·rcases(g b hb').1 with h1|h1
   ·exact o.ap hs1 hi hne b hb h1
   ·have :=((o.q hs1).2 b hb).2;omega
  ·exact o.ap hs1 ht1 hne b hb hb'
theorem Own.cons(o:Own h0 h L)(x:Ext h h')(q:r.Q h')(g:∀b,r.F b->h.size<=b/\b<h'.size):Own h0 h' (r::L):=
 o.frame (L':=[r]) ⟨x,λ{i s} hi=>by
  cases i with
  |zero=>simp at hi;subst hi;exact⟨q,g⟩
  |succ i=>simp at hi,λ{i j s t} hi hj hne=>by
  cases i<;>cases j<;>simp at hi hj;exact absurd rfl hne⟩
theorem Own.bh(o:Own h0 h L)(is:List Nat)(hn:is.Nodup):Own h0 h (is.map λi=>L.getD i gO):=by
 have key:∀{j:Nat}{s:aM},(is.map λi=>L.getD i gO)[j]? =some s->s=gO\/∃i,is[j]? =some i/\L[i]? =some s:=by
  intro j s hs;rw[List.getElem?_map,Option.map_eq_some_iff]at hs;obtain⟨i,hi,rfl⟩:=hs;rw[List.getD_eq_getElem?_getD];cases hL:L[i]? with
  |none=>exact .inl rfl
  |some s=>exact .inr ⟨i,hi,hL⟩
 refine⟨o.ext,λ{j s} hs=> ?_,λ{j k s t} hs ht hne b hb hb'=> ?_⟩
 ·rcases key hs with rfl|⟨i,_,hi⟩
  ·exact⟨trivial,λb hb=>hb.elim⟩
  ·exact o.q hi
 ·rcases key hs with rfl|⟨a,ha,hs⟩
  ·exact hb.elim
  ·rcases key ht with rfl|⟨c,hc,ht⟩
   ·exact hb'.elim
   ·refine o.ap hs ht (λe=>hne ?_) b hb hb';subst e;have h1:=(List.getElem?_eq_some_iff.1 ha);have h2:=(List.getElem?_eq_some_iff.1 hc);exact(List.getElem_inj hn).1 (h1.2.trans h2.2.symm)
theorem Own.tail(o:Own h0 h (r::L)):Own h0 h L:=
 ⟨o.ext,λ{i _} hi=>o.q (i:=i+1) hi,λ{i j _ _} hi hj hne=>o.ap (i:=i+1) (j:=j+1) hi hj (by omega)⟩
theorem Own.left(o:Own h0 h (L++L')):Own h0 h L:=by
 have key:∀{j:Nat}{s:aM},L[j]? =some s->(L++L')[j]? =some s:=λ{j s} hj=>by
  rw[List.getElem?_append_left (List.getElem?_eq_some_iff.1 hj).1];exact hj
 exact⟨o.ext,λhi=>o.q (key hi),λhi hj hne=>o.ap (key hi) (key hj) hne⟩
theorem Own.erase(o:Own h0 h L)(k:Nat):Own h0 h (L.eraseIdx k):=by
 have key:∀{j:Nat}{s:aM},(L.eraseIdx k)[j]? =some s->L[if j<k then j else j+1]? =some s:=λ{j s} hj=>by
  rw[List.getElem?_eraseIdx]at hj;split at hj<;>rename_i h1
  ·rw[if_pos h1];exact hj
  ·rw[if_neg h1];exact hj
 refine⟨o.ext,λhi=>o.q (key hi),λhi hj hne=>o.ap (key hi) (key hj) λe=>hne ?_⟩;split at e<;>split at e<;>omega
theorem Own.swap{s:aM}(o:Own h0 h (r::s::L)):Own h0 h (s::r::L):=by
 let g:Nat->Nat:=fun |0=>1|1=>0|n=>n
 have key:∀{j:Nat}{t:aM},(s::r::L)[j]? =some t->(r::s::L)[g j]? =some t:=λ{j t} hj=>by
  match j,hj with
  |0,hj=>exact hj
  |1,hj=>exact hj
  |n+2,hj=>exact hj
 refine⟨o.ext,λhi=>o.q (key hi),λ{i j _ _} hi hj hne=>o.ap (key hi) (key hj) λe=>hne ?_⟩
 match i,j,e with
 |0,0,_=>rfl
 |1,1,_=>rfl
 |0,n+2,e=>exact absurd e (by simp[g])
 |n+2,0,e=>exact absurd e (by simp[g])
 |1,n+2,e=>exact absurd e (by simp[g])
 |n+2,1,e=>exact absurd e (by simp[g])
 |n+2,m+2,e=>exact e
 |0,1,e=>exact absurd e (by simp[g])
 |1,0,e=>exact absurd e (by simp[g])
end
def aj(b:Nat)(cs:List Value)(T:TypeId):aM:=⟨λc=>c=b,λh=>h[b]? =some (.cells cs.toArray T (0,0)),λhs hq=>(hs b rfl).trans hq⟩
def JP(b:Nat)(o:Obj):aM:=⟨λc=>c=b,λh=>h[b]? =some o,λhs hq=>(hs b rfl).trans hq⟩
section
variable{P:Program}{h0 h h':aa}{L:List aM}{i b off n:Nat}{cs:List Value}{T:TypeId}{v:Value}{K:Value->Prop}{KH:KT}{KP:aa->Prop}
theorem Own.new{x:Obj}{r:aM}(o:Own h0 h L)(q:r.Q (h.push x))(g:∀b,r.F b->b=h.size):Own h0 (h.push x) (r::L):=
 o.cons (bB.push _ _ _) q λb hb=>by rw[g b hb,pT];omega
theorem Own.box(o:Own h0 h L)(hk:∀b h',Own h0 h' (aj b v.cells.toList T::L)->KH (.pointer (some ⟨b,0,none⟩)) h'):aB T v h KH:=by
 refine hk h.size _ (o.new ?_ λb hb=>hb);show(h.push _)[h.size]? =_;rw[fO]
theorem Own.load(o:Own h0 h L)(i:Nat)(hi:L[i]? =some (aj b cs T))(hv:cs[off]? =some v)(hk:K v):af h (.pointer (some ⟨b,off,none⟩)) K:=by
 have :hcell h ⟨b,off,none⟩=some v:=aY (o.get i hi) (by simpa using hv);simp only[cI,this];exact hk
theorem Own.Y4(o:Own h0 h L)(i:Nat)(hi:L[i]? =some (aj b cs T))(hn:off+n<=cs.length)(hk:K (.agg ((cs.drop off).take n).toArray)):aZ n h (.pointer (some ⟨b,off,none⟩)) K:=by
 have :gL h b off n=some ((cs.drop off).take n):=qV (i:=0) (o.get i hi) n off hn;simp only[CZ,this];exact hk
theorem Own.store(o:Own h0 h L)(i:Nat)(hi:L[i]? =some (aj b cs T))(hn:v.cells.size=n)(hle:off+v.cells.size<=cs.length)(hp:∀u∈v.cells.toList,plainCell u=true)
  (hk:∀h',Own h0 h' (L.set i (aj b (over cs off v.cells.toList) T))->KH undef h'):aC n (.pointer (some ⟨b,off,none⟩)) v h KH:=by
 have hb:h[b]? =some (.cells cs.toArray T (0,0)):=o.get i hi;have hlt:=((o.q hi).2 b rfl).2;refine mg rfl hb hn hle hp (hk _ (o.set i hi (bB.bn _ _ rfl) ?_ λc hc=>⟨.inl hc,?_⟩))
 ·exact gN hlt
 ·rw[gx];exact(show c=b from hc)▸hlt
theorem Own.put(o:Own h0 h L)(i:Nat)(hi:L[i]? =some (aj b cs T))(hv:v.cells= #[v])(hle:off<cs.length)(hp:plainCell v=true)
  (hk:∀h',Own h0 h' (L.set i (aj b (over cs off [v]) T))->KH undef h'):aC 1 (.pointer (some ⟨b,off,none⟩)) v h KH:=
 o.store i hi (by rw[hv];rfl) (by rw[hv];exact hle) (by rw[hv];simpa using hp) (by rw[hv];exact hk)
def bX(D:Nat):aM:=JP D (.deferred (some []))
def iY(m:List Nat):aM:=⟨λc=>c∈m,λh=>m.Nodup/\∀D∈m,h[D]? =some (.deferred (some [])),λhs hq=>⟨hq.1,λD hD=>(hs D hD).trans (hq.2 D hD)⟩⟩
theorem Own.zd(o:Own h0 h L):Own h0 h (iY []::L):=
 o.cons (.refl _ _) ⟨.nil,λ_ h=>by cases h⟩ λ_ h=>by cases h
theorem Own.tg{D:Nat}{m:List Nat}(o:Own h0 h (bX D::L))(j:Nat)(hj:L[j]? =some (iY m)):Own h0 h (L.set j (iY (D::m))):=by
 have hm:D∉m:=o.ap (i:=0) (j:=j+1) rfl hj (by omega) D rfl;have q0:=o.get 0 rfl;have q1:=o.tail.get j hj;have hlt:j<L.length:=(List.getElem?_eq_some_iff.1 hj).1;have key:∀{k s},(L.set j (iY (D::m)))[k]? =some s->(k=j/\s=iY (D::m))\/(k≠j/\L[k]? =some s):=by
  intro k s hs;by_cases e:k=j
  ·subst e;rw[List.getElem?_set_self hlt]at hs;exact .inl ⟨rfl,(Option.some.inj hs).symm⟩
  ·rw[List.getElem?_set_ne (λe'=>e e'.symm)]at hs;exact .inr ⟨e,hs⟩
 refine⟨o.ext,λ{k s} hs=> ?_,λ{k l s t} hs ht hne b hb hb'=> ?_⟩
 ·rcases key hs with ⟨rfl,rfl⟩|⟨_,hs⟩
  ·refine⟨⟨List.nodup_cons.2 ⟨hm,q1.1⟩,λE hE=> ?_⟩,λb hb=> ?_⟩
   ·rcases List.mem_cons.1 hE with rfl|hE
    ·exact q0
    ·exact q1.2 E hE
   ·rcases List.mem_cons.1 (show b∈D::m from hb)with rfl|hb
    ·exact(o.q (i:=0) rfl).2 _ rfl
    ·exact(o.tail.q hj).2 b hb
  ·exact o.tail.q hs
 ·rcases key hs with ⟨rfl,rfl⟩|⟨n1,hs1⟩<;>rcases key ht with ⟨rfl,rfl⟩|⟨n2,ht1⟩
  ·exact hne rfl
  ·rcases List.mem_cons.1 (show b∈D::m from hb)with rfl|hb
   ·exact o.ap (i:=0) (j:=l+1) rfl ht1 (by omega) _ rfl hb'
   ·exact o.tail.ap hj ht1 hne b hb hb'
  ·rcases List.mem_cons.1 (show b∈D::m from hb')with rfl|hb'
   ·exact o.ap (i:=0) (j:=k+1) rfl hs1 (by omega) _ rfl hb
   ·exact o.tail.ap hs1 hj hne b hb hb'
  ·exact o.tail.ap hs1 ht1 hne b hb hb'
theorem Own.take{m:List Nat}(o:Own h0 h L)(j:Nat)(hj:L[j]? =some (iY m))(hk:∀h',Own h0 h' (L.set j gO)->KP h'):cH m h KP:=by
 obtain⟨hn,hq⟩:=o.get j hj;refine za m h hq hn λh' u=>hk h' (o.set j hj u trivial λb hb=>hb.elim)
theorem Own.iZ{D:Nat}(o:Own h0 h L)(j:Nat)(hj:L[j]? =some (bX D))(hk:∀h',Own h0 h' (L.set j gO)->KP h'):cH [D] h KP:=by
 have hq:=o.get j hj;refine za [D] h (λE hE=>by simp at hE;subst hE;exact hq) (by simp) λh' u=>hk h' (o.set j hj (u.mono λb hb _=>List.mem_singleton.1 hb) trivial λb hb=>hb.elim)
theorem Own.Y5{D:Nat}{m:List Nat}(o:Own h0 h (bX D::L))(j:Nat)(hj:L[j]? =some (iY m))(hk:∀h',Own h0 h' (L.set j gO)->KP h'):cH (D::m) h KP:=by
 have o1:=o.tg j hj;have hlt:j<L.length:=(List.getElem?_eq_some_iff.1 hj).1;refine o1.take j (List.getElem?_set_self hlt) λh' o'=>hk h' ?_;rwa[List.set_set]at o'
def b6(l:Nat)(x:Obj):aM:=JP l x
theorem Own.begin{l:Nat}{M:Loop}{p:Option Code}(o:Own h0 h L)(i:Nat)(hi:L[i]? =some (b6 l (lo M .ready p)))(hk:∀h',Own h0 h' (L.set i (b6 l (lo M .busy p)))->KP h'):gY l M h KP:=by
 have hb:h[l]? =some (lo M .ready p):=o.get i hi;have hlt:=((o.q hi).2 l rfl).2;refine JJ hb (hk _ (o.set i hi (bB.bn _ _ rfl) (gN hlt) λc hc=>⟨.inl hc,?_⟩));rw[gx];exact(show c=l from hc)▸hlt
def fk:(l:List Nat)->List Value->bw l
 | [],_=>()
 |_::r,[]=>(undef,fk r [])
 |_::r,v::vs=>(v,fk r vs)
theorem ze:∀{l:List Nat}{vs:List Value},vs.length=l.length->k7 l (fk l vs)=vs
 | [],[],_=>rfl
 |_::_,_::_,h=>by simp only[fk,k7];rw[ze (by simpa using h)]
def gP(P:Program)(fv:Value)(Q:aa->Prop){σ:Type}(s0:σ)(next :σ->List Value->σ->Prop)(stop:σ->Prop):Prop:=
 ∀ (yv:Value) (h0 h:aa) (d:List aM) (K:KT) (J:σ->List aM->Prop) (E:List aM->Prop),(∃l,yv=dm l)->
  Own h0 h d->J s0 d->(∀s a h',J s a->Own h0 h' a->Q h')->
  (∀s x s' a Pr h' R,next s x s'->J s a->Own h0 h' (a++Pr)->(∀c h'',J s' c->Own h0 h'' (c++Pr)->R (.bool true) h'')->
   (∀c h'',E c->Own h0 h'' (c++Pr)->R (.bool false) h'')->aS P yv x.toArray h' R)->
  (∀a h',((∃s,stop s/\J s a)\/E a)->Own h0 h' a->K (.tuple #[]) h')->sU P fv #[yv] h K
abbrev Iter(P:Program)(fv:Value)(Q:aa->Prop)(n:Nat)(f:(i:Nat)->i<n->List Value):Prop:=
 gP P fv Q (σ:=Nat) 0 (λi x i'=>(∃hi:i<n,x=f i hi)/\i'=i+1) (λi=>i=n)
abbrev C4(P:Program)(fv:Value)(Q:aa->Prop)(S:List Value->Prop):Prop:=
 gP P fv Q (σ:=Unit) () (λ_ x _=>S x) (λ_=>True)
theorem Own.mT{r:aM}:∀{L:List aM},Own h0 h (r::L)->Own h0 h (L++ [r]):=by
 intro L o;have key:∀{j:Nat}{s:aM},(L++ [r])[j]? =some s->(r::L)[if j<L.length then j+1 else 0]? =some s/\j<=L.length:=λ{j s} hj=>by
  by_cases h1:j<L.length
  ·rw[List.getElem?_append_left h1]at hj;rw[if_pos h1];exact⟨hj,by omega⟩
  ·rw[List.getElem?_append_right (by omega)]at hj;rw[if_neg h1];obtain⟨h2,h3⟩:=List.getElem?_eq_some_iff.1 hj;simp at h2 h3;exact⟨by simp[h3],by omega⟩
 refine⟨o.ext,λhi=>o.q (key hi).1,λhi hj hne=>o.ap (key hi).1 (key hj).1 λe=>hne ?_⟩;have a:=(key hi).2;have b:=(key hj).2;split at e<;>split at e<;>omega
theorem Own.range{fv:Value}{Q:aa->Prop}{σ:Type}{s0:σ}{next :σ->List Value->σ->Prop}{stop:σ->Prop}{ps:List Nat}{B:Loop->bw ps->aa->(Exit->aa->Prop)->Prop}{q t:aa->Prop}{u:List (Nat×(aa->Prop))}
  (o:Own h0 h L) (hI:gP P fv Q s0 next stop) (hf:∀s x s',next s x s'->x.length=ps.length) (J:σ->List aM->Prop) (k:List aM->Prop) (l:Nat->List aM->Prop)
  (w:J s0 L) (hQ:∀s d h',J s d->Own h0 h' d->Q h')
  (step:∀M s x s' d Pr h'(R:Exit->aa->Prop),next s x s'->J s d->Own h0 h' (b6 (h.size+1) (lo M .ready none)::bX h.size::(d++Pr))->
   (∀a h'',J s' a->Own h0 h'' (b6 (h.size+1) (lo M .busy none)::bX h.size::(a++Pr))->R .normal h'')->
   (∀a h'',k a->Own h0 h'' (b6 (h.size+1) (lo M .busy none)::bX h.size::(a++Pr))->R .ret h'')->
   (∀id a h'',l id a->Own h0 h'' (b6 (h.size+1) (lo M .busy none)::bX h.size::(a++Pr))->R (.exit id) h'')->B M (fk ps x) h' R)
  (fin:∀s h' d,stop s->J s d->Own h0 h' (bX h.size::d)->q h') (y:∀h' d,k d->Own h0 h' (bX h.size::d)->t h')
  (z:∀id h' d,l id d->Own h0 h' (bX h.size::d)->qS u id h'):
  gd P fv ps (h.size+1) (h.push (.deferred (some []))) B q t u:=by
 intro M hy;have e1:(h.push (.deferred (some []))).size=h.size+1:=pT;have o1:Own h0 (h.push (.deferred (some []))) (bX h.size::L):=o.new (r:=bX h.size) fO λb hb=>hb;have o2:Own h0 ((h.push (.deferred (some []))).push (lo M .ready none)) (b6 (h.size+1) (lo M .ready none)::bX h.size::L):=
  o1.new (r:=b6 (h.size+1) (lo M .ready none)) (by show(Array.push _ _)[h.size+1]? =_;rw[<-e1,fO]) λb hb=>hb.trans e1.symm
 refine hI (dm (h.size+1)) h0 _ _ _ (λs m=>∃f,m=b6 (h.size+1) (lo M .ready none)::bX h.size::f/\J s f)
  (λm=>∃p f,m=b6 (h.size+1) (lo M .done (some p))::bX h.size::f/\((p=.ret/\k f)\/∃id,p=.exit id/\l id f)) ⟨_,rfl⟩ o2 ⟨L,rfl,w⟩
  (λs d h'⟨f,e,hj⟩ o'=>hQ s f h' hj (by subst e;exact o'.tail.tail)) ?_ ?_
 ·rintro s x s' _ Pr h' R hn ⟨f,rfl,hj⟩ o' hT hF;have hb:h'[h.size+1]? =some (lo M .ready none):=o'.get 0 rfl;have :=hy (fk ps x) h' R .ready none hb;rw[ze (hf _ _ _ hn)]at this;refine this (step M s x s' f Pr h' _ hn hj o' ?_ ?_ ?_)
  ·intro a h'' hj' g;have hb':h''[h.size+1]? =some (lo M .busy none):=g.get 0 rfl;have hlt:=dN hb';refine⟨none,hb',hT (b6 (h.size+1) (lo M .ready none)::bX h.size::a) _ ⟨a,rfl,hj'⟩ ?_⟩;refine g.set 0 (r':=b6 (h.size+1) (lo M .ready none)) rfl (bB.bn (S:=(b6 (h.size+1) (lo M .busy none)).F) h'' _ rfl) (gN hlt) λc hc=>⟨.inl hc,?_⟩;rw[nM,gx];exact(show c=h.size+1 from hc)▸hlt
  ·intro a h'' hj' g;have hb':h''[h.size+1]? =some (lo M .busy none):=g.get 0 rfl;have hlt:=dN hb';refine⟨none,hb',hF (b6 (h.size+1) (lo M .done (some .ret))::bX h.size::a) _ ⟨.ret,a,rfl,.inl ⟨rfl,hj'⟩⟩ ?_⟩;refine g.set 0 (r':=b6 (h.size+1) (lo M .done (some .ret))) rfl (bB.bn (S:=(b6 (h.size+1) (lo M .busy none)).F) h'' _ rfl) (gN hlt) λc hc=>⟨.inl hc,?_⟩;rw[nM,gx];exact(show c=h.size+1 from hc)▸hlt
  ·intro id a h'' hj' g;have hb':h''[h.size+1]? =some (lo M .busy none):=g.get 0 rfl;have hlt:=dN hb';refine⟨none,hb',hF (b6 (h.size+1) (lo M .done (some (.exit id)))::bX h.size::a) _ ⟨.exit id,a,rfl,.inr ⟨id,rfl,hj'⟩⟩ ?_⟩;refine g.set 0 (r':=b6 (h.size+1) (lo M .done (some (.exit id)))) rfl (bB.bn (S:=(b6 (h.size+1) (lo M .busy none)).F) h'' _ rfl) (gN hlt) λc hc=>⟨.inl hc,?_⟩;rw[nM,gx];exact(show c=h.size+1 from hc)▸hlt
 ·have close:∀{f:List aM}{h':aa}{st:LoopState}{p:Option Code},Own h0 h' (b6 (h.size+1) (lo M st p)::bX h.size::f)->Own h0 (bn h' (h.size+1) (lo M .exhausted p)) (bX h.size::f):=by
   intro f h' st p o';have hb':h'[h.size+1]? =some (lo M st p):=o'.get 0 rfl;have hlt:=dN hb';exact(o'.set 0 (r':=gO) rfl (bB.bn (S:=(b6 (h.size+1) (lo M st p)).F) h' (lo M .exhausted p) rfl) trivial λc hc=>hc.elim).tail
  rintro d h' (⟨s,hs,f,rfl,hj⟩|⟨p,f,rfl,hp⟩) o'
  ·exact⟨.ready,none,by decide,o'.get 0 rfl,fin _ _ _ hs hj (close o')⟩
  ·refine⟨.done,some p,by decide,o'.get 0 rfl,?_⟩;rcases hp with ⟨rfl,he⟩|⟨id,rfl,he⟩
   ·exact y _ _ he (close o')
   ·exact z _ _ _ he (close o')
end
open Go
abbrev ptr(b:Nat):Value:=.pointer (some ⟨b,0,none⟩)
def aG(x:Int):List Value:=[I x]
theorem mU(x:Int):(aG x).length=1:=rfl
theorem ja(x:Int):∀u∈aG x,plainCell u=true:=by intro u hu;simp[aG]at hu;subst hu;rfl
section
variable{α:Type}{enc:α->List Value}{n:Nat}{h0 h h':aa}{v w:Value}{ys xs:List α}{K:Value->Prop}{KH:KT}{k:IntKind}{i:Nat}
def Vw(enc:α->List Value)(n:Nat)(h:aa)(v:Value)(ys:List α):Prop:=∃bl,jK enc n h v bl ys
theorem Vw.more(H:Vw enc n h v ys)(x:Ext h h'):Vw enc n h' v ys:=by
 obtain⟨bl,H⟩:=H;exact⟨bl,H.bn x id⟩
theorem Vw.nil:Vw enc n h (.slice none 0 0) []:=⟨0,none,0,rfl,Nat.le_refl _,.inl ⟨rfl,.inl rfl⟩⟩
theorem Vw.len(H:Vw enc n h v ys)(hk:K (I ys.length)):bx v K:=by
 obtain⟨bl,H⟩:=H;exact H.ta hk
theorem Vw.mV(H:Vw enc n h v ys):∃b c,v=.slice b ys.length c:=by
 obtain⟨bl,b,c,e,_⟩:=H;exact⟨b,c,e⟩
theorem JQ{b:Nat}:∀(l:List Value)(o:Nat),(∀j,j<l.length->hcell h ⟨b,o+j,none⟩=l[j]?)->gL h b o l.length=some l
 | [],o,_=>rfl
 | v::l,o,H=>by
  have h0:hcell h ⟨b,o,none⟩=some v:=by simpa using H 0 (by simp)
  simp only[List.length_cons,gL,h0];rw[JQ l (o+1) λj hj=>by
   have :=H (j+1) (by simp;omega);rw[show o+1+j=o+(j+1) by omega];simpa using this]
theorem Vw.idx(he:∀a,(enc a).length=n)(H:Vw enc n h v ys)(hi:i<ys.length)
  (hK:∀b o,(∀j,j<n->hcell h ⟨b,o+j,none⟩=(enc ys[i])[j]?)->K (.pointer (some ⟨b,o,none⟩))):aW n v (.int k i) K:=by
 obtain⟨bl,H⟩:=H;exact H.idx he hi λo ho=>hK bl o ho
theorem Vw.dH{e:α->Value}(H:Vw enc 1 h v ys)(he:∀a,enc a=[e a])(hi:i<ys.length)(hk:K (e ys[i])):aW 1 v (.int k i) (λt=>af h t K):=by
 refine H.idx (λa=>by rw[he];rfl) hi λb o hc=> ?_;have :=hc 0 (by omega);rw[he]at this;simp only[Nat.add_zero,List.getElem?_cons_zero]at this;simp only[cI,this];exact hk
theorem Vw.cV{ys:List Int}(H:Vw aG 1 h v ys)(hi:i<ys.length)(hk:K (I ys[i])):aW 1 v (.int k i) (λt=>af h t K):=
 H.dH (e:=λx=>I x) (λ_=>rfl) hi hk
theorem Vw.mh(he:∀a,(enc a).length=n)(H:Vw enc n h v ys)(hi:i<ys.length)(hk:K (.agg (enc ys[i]).toArray)):aW n v (.int k i) (λt=>aZ n h t K):=by
 refine H.idx he hi λb o hc=> ?_;have :=JQ (enc ys[i]) o (λj hj=>hc j (by rw[he]at hj;exact hj));rw[he]at this;simp only[CZ,this];exact hk
theorem Vw.C5{j:Nat}{u:Value}(he:∀a,(enc a).length=n)(H:Vw enc n h v ys)(hi:i<ys.length)(hj:j<n)(hu:(enc ys[i])[j]? =some u)(hk:K u):
  aW n v (.int k i) (λt=>aq j t λt'=>af h t' K):=by
 refine H.idx he hi λb o hc=> ?_;have :=hc j hj;rw[hu]at this;simp only[aQ,cI,this];exact hk
theorem Vw.sub{lo hi:Option Value}{a j:Nat}(he:∀a,(enc a).length=n)(H:Vw enc n h v ys)(hlo:jk 0 lo=some (a:Int))(hhi:jk ys.length hi=some (j:Int))(hij:a<=j)(hj:j<=ys.length)
  (hK:∀v',Vw enc n h v' ((ys.drop a).take (j-a))->K v'):dY n v lo hi none K:=by
 obtain⟨bl,H⟩:=H;exact H.sub he hlo hhi hij hj λv' H'=>hK v' ⟨bl,H'⟩
theorem Vw.cells(he:∀a,(enc a).length=n)(H:Vw enc n h v ys):∃base cap,v=.slice base ys.length cap/\gM h n ys.length base=some (row enc ys):=by
 obtain⟨bl,H⟩:=H;exact H.cells he
end
def oK:Value->Nat->Prop
 | .slice (some a) _ _,c=>c=a.block
 |_,_=>False
section
variable{α:Type}{enc:α->List Value}{n:Nat}{T:TypeId}{h0 h h':aa}{v w:Value}{ys xs:List α}{K:Value->Prop}{KH:KT}{k:IntKind}{i:Nat}{L:List aM}
def aA(enc:α->List Value)(n:Nat)(T:TypeId)(v:Value)(xs:List α):aM:=⟨oK v,λh=>∃bl,dL enc n T h v bl xs,λ{h h'} hs hq=>by
 obtain⟨bl,H⟩:=hq;refine⟨bl,?_⟩;rcases H with H|⟨cap,rest,rfl,hb,a,c⟩
 ·exact .inl H
 ·exact .inr ⟨cap,rest,rfl,(hs bl rfl).trans hb,a,c⟩⟩
theorem Own.vw(o:Own h0 h L)(i:Nat)(hi:L[i]? =some (aA enc n T v xs)):Vw enc n h v xs:=by
 obtain⟨bl,H⟩:=o.get i hi;exact⟨bl,H.view⟩
theorem q9{bl:Nat}(H:dL enc n T h v bl xs):(aA enc n T v xs).Q h:=⟨bl,H⟩
theorem Own.en(o:Own h0 h L):Own h0 h (aA enc n T (.slice none 0 0) ([]:List α)::L):=
 o.cons (.refl _ _) ⟨0,.inl ⟨rfl,rfl⟩⟩ λb hb=>hb.elim
theorem dL.blk{bl:Nat}(H:dL enc n T h v bl xs){b:Nat}(hb:oK v b):b=bl:=by
 rcases H with ⟨rfl,_⟩|⟨cap,rest,rfl,_⟩
 ·exact hb.elim
 ·exact hb
theorem dL.C6{bl:Nat}(H:dL enc n T h v bl xs){b:Nat}(hb:oK v b):b<h.size:=by
 have e:=H.blk hb;rcases H with ⟨rfl,_⟩|⟨cap,rest,rfl,hx,_⟩
 ·exact hb.elim
 ·subst e;exact dN hx
theorem Own.fresh{c:Nat}{rest:List Value}(o:Own h0 h L)(hr:rest.length=(c-xs.length)*n)(hc:xs.length<=c):
  Own h0 (h.push (.cells (row enc xs++rest).toArray T (0,0))) (aA enc n T (.slice (some ⟨h.size,0,none⟩) xs.length c) xs::L):=
 o.new (q9 (bl:=h.size) (.inr ⟨c,rest,rfl,fO,hr,hc⟩)) λb hb=>hb
theorem Own.make{bytes:Nat}{zero:List Value}{k':IntKind}{m:Nat}{a:α}(o:Own h0 h L)(hz:zero=enc a)(hb:(bytes:Int)*m<=2^48)(hm:m<2^63)
  (hK:∀w h',Own h0 h' (aA enc n T w (List.replicate m a)::L)->KH w h'):c9 T bytes zero (.int k m) (.int k' m) h KH:=by
 subst hz;refine Y2 hb hm λw h' H x hs=>hK w h' (o.cons x (q9 H) λb hb=> ?_);have :=H.blk hb;subst this;omega
theorem Own.build{zs:List Value}{parts:List (Nat×Nat×Value)}{len:Nat}(o:Own h0 h L)(xs:List α)(hrow:fC zs parts=row enc xs)(hsz:kW zs.length parts)(hl:len=xs.length)
  (hK:∀w h',Own h0 h' (aA enc n T w xs::L)->KH w h'):cz T zs parts len h KH:=by
 subst hl;refine⟨hsz,hK _ _ ?_⟩;have :=o.fresh (enc:=enc) (n:=n) (T:=T) (xs:=xs) (c:=xs.length) (rest:=[]) (by simp) (Nat.le_refl _);rw[hrow];simpa using this
theorem Own.app{bytes:Nat}{zero:List Value}{x:Value}(o:Own h0 h L)(i:Nat)(hi:L[i]? =some (aA enc n T v xs))(he:∀a,(enc a).length=n)(hp:∀a,∀u∈enc a,plainCell u=true)(hz:zero.length=n)
  (hx:Vw enc n h x ys) (hby:0<bytes) (hb:(xs.length+ys.length)*bytes<=2^47) (hK:∀v' h',Own h0 h' (L.set i (aA enc n T v' (xs++ys)))->KH v' h'):cZ T n bytes zero v x h KH:=by
 obtain⟨bl,H⟩:=o.get i hi;obtain⟨j,xc,rfl,d⟩:=hx.cells he;have hF:(∃cs,h[bl]? =some (.cells cs T (0,0)))->v=.slice none 0 0\/oK v bl:=λ_=>by
  rcases H with ⟨rfl,_⟩|⟨cap,rest,rfl,_⟩
  ·exact .inl rfl
  ·exact .inr rfl
 rcases H with ⟨rfl,rfl⟩|⟨cap,rest,rfl,H⟩
 ·
  have H0:dL enc n T h (.slice none 0 0) h.size ([]:List α):=.inl ⟨rfl,rfl⟩;refine C1 he hp hz H0 rfl d hby hb λv' g h' H' c u hlt=>hK v' h' (o.set i hi (u.mono λb⟨e,cs,hcs⟩ hlt=> ?_) (q9 H') λb hb=> ?_)
  ·subst e;exact absurd hlt (Nat.lt_irrefl _)
  ·have :=H'.blk hb;exact⟨.inr (by rcases c with e|e<;>omega),H'.C6 hb⟩
 ·refine C1 he hp hz (.inr ⟨cap,rest,rfl,H⟩) rfl d hby hb λv' g h' H' c u hlt=>hK v' h' (o.set i hi (u.mono λb⟨e,cs,hcs⟩ _=>e) (q9 H') λb hb=> ?_);have hb':=H'.blk hb;refine⟨?_,H'.C6 hb⟩;rcases c with e|e
  ·exact .inl (hb'.trans e)
  ·exact .inr (by omega)
theorem Own.fF{bytes:Nat}{zero zs:List Value}{parts:List (Nat×Nat×Value)}(o:Own h0 h L)(i:Nat)(a:α)(hi:L[i]? =some (aA enc n T v xs))(hrow:fC zs parts=enc a)(hsz:kW zs.length parts)
  (he:∀a,(enc a).length=n) (hp:∀a,∀u∈enc a,plainCell u=true) (hz:zero.length=n) (hby:0<bytes) (hb:(xs.length+1)*bytes<=2^47)
  (hK:∀v' h',Own h0 h' (L.set i (aA enc n T v' (xs++ [a])))->KH v' h'):cz T zs parts 1 h λt h1=>cZ T n bytes zero v t h1 KH:=by
 refine o.build (enc:=enc) (n:=n) [a] (by rw[hrow];simp[row]) hsz rfl λw h1 o1=> ?_;exact o1.app (i+1) hi he hp hz (o1.vw 0 rfl) hby hb λv' h' o'=>hK v' h' o'.tail
theorem Own.setAt{a:α}{j:Nat}(o:Own h0 h L)(i:Nat)(hi:L[i]? =some (aA enc n T v xs))(he:∀a,(enc a).length=n)(hp:∀u∈enc a,plainCell u=true)(hj:j<xs.length)(hw:w.cells.toList=enc a)
  (hK:∀h',Own h0 h' (L.set i (aA enc n T v (xs.set j a)))->KH undef h'):aW n v (.int k j) λt=>aC n t w h KH:=by
 obtain⟨bl,H⟩:=o.get i hi;refine H.idx hj (dL.set he hp H hj rfl hw rfl λh' H' u hs=>hK h' (o.set i hi (u.mono λb hb _=> ?_) (q9 H') λb hb=>⟨.inl hb,H'.C6 hb⟩));subst hb;obtain⟨cap,rest,rfl,_⟩:=H.full (by omega);rfl
theorem Own.iu{xs:List Int}{z:Int}{j:Nat}(o:Own h0 h L)(i:Nat)(hi:L[i]? =some (aA aG 1 T v xs))(hj:j<xs.length)
  (hK:∀h',Own h0 h' (L.set i (aA aG 1 T v (xs.set j z)))->KH undef h'):aW 1 v (.int k j) λt=>aC 1 t (I z) h KH:=
 o.setAt i hi mU (ja z) hj rfl hK
theorem Own.JR{j:Nat}(o:Own h0 h L)(i:Nat)(hi:L[i]? =some (aA enc n T v xs))(hj:j<xs.length)(hK:∀bl,dL enc n T h v bl xs->oK v bl->K (.pointer (some ⟨bl,j*n,none⟩))):aW n v (.int k j) K:=by
 obtain⟨bl,H⟩:=o.get i hi;refine H.idx hj (hK bl H ?_);obtain⟨cap,rest,rfl,_⟩:=H.full (by omega);rfl
theorem Y6{j f:Nat}{u:Value}{a:α}{rest:List Value}(he:∀a,(enc a).length=n)(hj:j<xs.length)(hf:f<n)(ha:enc a=(enc xs[j]).set f u):
  over (row enc xs++rest) (j*n+f) [u]=row enc (xs.set j a)++rest:=by
 have hlen:=gi he xs;have hmul:(j+1)*n<=xs.length*n:=Nat.mul_le_mul_right n hj;rw[Nat.succ_mul]at hmul;have hle:j*n+f<(row enc xs++rest).length:=by rw[List.length_append,hlen];omega
 have e1:over (row enc xs++rest) (j*n+f) [u]=(row enc xs++rest).set (j*n+f) u:=by
  rw[List.set_eq_take_append_cons_drop,if_pos hle];simp[over]
 rw[e1,<-vF he hj a rest];apply List.ext_getElem?;intro m;have hla:(enc a).length=n:=he a;have hg:∀m',m'<n->(row enc xs++rest)[j*n+m']? =(enc xs[j])[m']? :=λm' hm'=>qW he hj hm' rest;unfold over;clear e1;generalize row enc xs++rest=R at hle hg;by_cases h1:m<j*n
 ·rw[List.getElem?_set_ne (by omega),List.append_assoc,List.getElem?_append_left (by simp;omega),List.getElem?_take_of_lt h1]
 ·by_cases h2:m<j*n+n
  ·rw[List.append_assoc,List.getElem?_append_right (by simp;omega),List.length_take,Nat.min_eq_left (by omega),List.getElem?_append_left (by omega),ha];by_cases h3:m=j*n+f
   ·subst h3;rw[List.getElem?_set_self hle,show j*n+f-j*n=f by omega,List.getElem?_set_self (by rw[he];exact hf)]
   ·rw[List.getElem?_set_ne (by omega),List.getElem?_set_ne (by omega),<-hg (m-j*n) (by omega),show j*n+(m-j*n)=m by omega]
  ·rw[List.getElem?_set_ne (by omega),List.append_assoc,List.getElem?_append_right (by simp;omega),List.length_take,Nat.min_eq_left (by omega),List.getElem?_append_right (by omega),List.getElem?_drop,hla];congr 1;omega
theorem Own.JS{a:α}{j f:Nat}{u:Value}(o:Own h0 h L)(i:Nat)(hi:L[i]? =some (aA enc n T v xs))(he:∀a,(enc a).length=n)(hj:j<xs.length)(hf:f<n)(hu:u.cells= #[u])(hp:plainCell u=true)(ha:enc a=(enc xs[j]).set f u)
  (hK:∀h',Own h0 h' (L.set i (aA enc n T v (xs.set j a)))->KH undef h'):aW n v (.int k j) λt=>aq f t λt'=>aC 1 t' u h KH:=by
 refine o.JR i hi hj λbl H c=> ?_;obtain⟨cap,rest,rfl,hb,hr,hle⟩:=H.full (by omega);have hlen:=gi he xs;have hmul:(j+1)*n<=xs.length*n:=Nat.mul_le_mul_right n hj;rw[Nat.succ_mul]at hmul;simp only[aQ];refine mg rfl hb (by rw[hu];rfl) (by rw[hu,List.length_append,hlen];show j*n+f+1<=_;omega) (by rw[hu];simpa using hp) (hk:=hK _ ?_);rw[hu,Y6 he hj hf ha];refine o.set i hi (bB.bn _ _ rfl) (q9 (bl:=bl) (.inr ⟨cap,rest,by simp,gA hb,by simpa using hr,by simpa using hle⟩)) λb hb'=>⟨.inl hb',?_⟩;have :b=bl:=hb';subst this;rw[gx];exact dN hb
end
def dz(m:Nat)(f:Int->Option Value):aM:=⟨λb=>b=m,λh=>∃es c,h[m]? =some (.map es c)/\IMap es c f,λhs⟨es,c,a,b⟩=>⟨es,c,(hs m rfl).trans a,b⟩⟩
section
variable{h0 h:aa}{L:List aM}{m:Nat}{f:Int->Option Value}{K:Value->Prop}{KH:KT}{k:Int}{z v:Value}{ok:Bool}
theorem Own.mkMap(o:Own h0 h L)(hK:∀m h',Own h0 h' (dz m (λ_=>none)::L)->KH (.map (some m)) h'):bp h KH:=
 hK h.size _ (o.new (r:=dz h.size _) ⟨#[],0,fO,.empty⟩ λb hb=>hb)
theorem Own.look(o:Own h0 h L)(i:Nat)(hi:L[i]? =some (dz m f))(hk:K (if ok then .tuple #[(f k).getD z,.bool (f k).isSome]else(f k).getD z)):de (.int .i64) z ok h (.map (some m)) (I k) K:=by
 obtain⟨es,c,hm,him⟩:=o.get i hi;exact td hm him hk
theorem Own.kE{f':Int->Option Value}(o:Own h0 h L)(i:Nat)(hi:L[i]? =some (dz m f))(hf:∀x,f' x=cu f k v x)(hK:∀h',Own h0 h' (L.set i (dz m f'))->KH undef h'):dQ (.int .i64) (.map (some m)) (I k) v h KH:=by
 obtain⟨es,c,hm,him⟩:=o.get i hi;have hlt:=dN hm;refine JO hm him λes' c' a=>hK _ (o.set i hi (bB.bn _ _ rfl) ⟨es',c',gN hlt,a.congr λx=>(hf x).symm▸rfl⟩ λb hb=>⟨.inl hb,?_⟩);rw[gx];exact(show b=m from hb)▸hlt
end
section
variable{h0 h h':aa}{L L':List aM}{r r':aM}{i:Nat}
theorem kF{α:Type}{L:List α}{i:Nat}{r x:α}(hi:L[i]? =some r):(L.set i x)[i]? =some x:=
 List.getElem?_set_self (List.getElem?_eq_some_iff.1 hi).1
theorem Own.conv(o:Own h0 h L)(i:Nat)(hi:L[i]? =some r)(q:r'.Q h)(g:∀b,r'.F b->r.F b):Own h0 h (L.set i r'):=
 o.set i hi (.refl _ _) q λb hb=>⟨.inl (g b hb),((o.q hi).2 b (g b hb)).2⟩
def C7(l:List aM):aM:=⟨λb=>∃r∈l,r.F b,λh=>∀r∈l,r.Q h,λhs hq r hr=>r.st (λb hb=>hs b ⟨r,hr,hb⟩) (hq r hr)⟩
theorem Own.pack:∀{l L:List aM},Own h0 h (l++L)->Own h0 h (C7 l::L):=by
 intro l L o;have key:∀{j:Nat}{s:aM},L[j]? =some s->(l++L)[l.length+j]? =some s:=λ{j s} hj=>by
  rw[List.getElem?_append_right (by omega),Nat.add_sub_cancel_left];exact hj
 have a:∀{s:aM},s∈l->∃j,j<l.length/\(l++L)[j]? =some s:=λ{s} hs=>by
  obtain⟨j,hj,rfl⟩:=List.mem_iff_getElem.1 hs;exact⟨j,hj,by rw[List.getElem?_append_left hj];simp⟩
 refine⟨o.ext,λ{i s} hi=> ?_,λ{i j s t} hi hj hne b hb hb'=> ?_⟩
 ·cases i with
  |zero=>
   simp at hi;subst hi;refine⟨λr hr=> ?_,λb⟨r,hr,hb⟩=> ?_⟩
   ·obtain⟨j,_,hj⟩:=a hr;exact(o.q hj).1
   ·obtain⟨j,_,hj⟩:=a hr;exact(o.q hj).2 b hb
  |succ i=>exact o.q (key (j:=i) (by simpa using hi))
 ·cases i with
  |zero=>
   simp at hi;subst hi;obtain⟨r,hr,hb⟩:=hb;obtain⟨k,hk,hkr⟩:=a hr;cases j with
   |zero=>exact hne rfl
   |succ j=>exact o.ap hkr (key (j:=j) (by simpa using hj)) (by omega) b hb hb'
  | succ i=>
   cases j with
   |zero=>
    simp at hj;subst hj;obtain⟨r,hr,hb'⟩:=hb';obtain⟨k,hk,hkr⟩:=a hr;exact o.ap (key (j:=i) (by simpa using hi)) hkr (by omega) b hb hb'
   |succ j=>exact o.ap (key (j:=i) (by simpa using hi)) (key (j:=j) (by simpa using hj)) (by omega) b hb hb'
theorem Own.weak(o:Own h0 h (r::L))(q:r.Q h->r'.Q h)(g:∀b,r'.F b->r.F b):Own h0 h (r'::L):=
 o.conv 0 rfl (q (o.get 0 rfl)) g
theorem Own.front(o:Own h0 h L)(k:Nat)(is:List Nat)(hn:is.Nodup)(hk:∀i∈is,i<k):Own h0 h ((is.map λi=>L.getD i gO)++L.drop k):=by
 have key:∀{j:Nat}{s:aM},((is.map λi=>L.getD i gO)++L.drop k)[j]? =some s->s=gO\/∃i,L[i]? =some s/\((j<is.length/\is[j]? =some i)\/(is.length<=j/\i=k+(j-is.length))):=by
  intro j s hs;by_cases hj:j<is.length
  ·rw[List.getElem?_append_left (by simpa using hj),List.getElem?_map,Option.map_eq_some_iff]at hs;obtain⟨i,hi,rfl⟩:=hs;rw[List.getD_eq_getElem?_getD];cases hL:L[i]? with
   |none=>exact .inl rfl
   |some s=>exact .inr ⟨i,hL,.inl ⟨hj,hi⟩⟩
  ·rw[List.getElem?_append_right (by simp;omega),List.length_map,List.getElem?_drop]at hs;exact .inr ⟨_,hs,.inr ⟨by omega,rfl⟩⟩
 refine⟨o.ext,λ{j s} hs=> ?_,λ{j l s t} hs ht hne b hb hb'=> ?_⟩
 ·rcases key hs with rfl|⟨i,hi,_⟩
  ·exact⟨trivial,λb hb=>hb.elim⟩
  ·exact o.q hi
 ·rcases key hs with rfl|⟨a,ha,h1⟩
  ·exact hb.elim
  ·rcases key ht with rfl|⟨c,hc,h2⟩
   ·exact hb'.elim
   ·refine o.ap ha hc (λe=>hne ?_) b hb hb';subst e;rcases h1 with ⟨h1,d⟩|⟨h1,d⟩<;>rcases h2 with ⟨h2,g⟩|⟨h2,g⟩
    ·have e1:=(List.getElem?_eq_some_iff.1 d);have e2:=(List.getElem?_eq_some_iff.1 g);exact(List.getElem_inj hn).1 (e1.2.trans e2.2.symm)
    ·have :=hk a (List.mem_of_getElem? d);omega
    ·have :=hk a (List.mem_of_getElem? g);omega
    ·omega
theorem Vw.plain{α:Type}{enc:α->List Value}{n:Nat}{v:Value}{xs:List α}(H:Vw enc n h v xs):plainCell v=true:=by
 obtain⟨b,c,rfl⟩:=H.mV;rfl
theorem Vw.one{α:Type}{enc:α->List Value}{n:Nat}{v:Value}{xs:List α}(H:Vw enc n h v xs):v.cells= #[v]:=by
 obtain⟨b,c,rfl⟩:=H.mV;rfl
theorem Own.st{b off n:Nat}{cs cs' l:List Value}{T:TypeId}{v:Value}{KH:KT}(o:Own h0 h L)(i:Nat)(hi:L[i]? =some (aj b cs T))(hv:v.cells=l.toArray)(hn:l.length=n)(hle:Nat.ble (off+n) cs.length=true)(hcs:over cs off l=cs')
  (hp:∀u∈l,plainCell u=true) (hk:∀h',Own h0 h' (L.set i (aj b cs' T))->KH undef h'):aC n (.pointer (some ⟨b,off,none⟩)) v h KH:=by
 have hs:v.cells.size=n:=by rw[hv];simpa using hn
 refine o.store i hi hs (by rw[hs];exact Nat.le_of_ble_eq_true hle) (by rw[hv];simpa using hp) λh' o'=>hk h' ?_;rw[hv]at o';simp only[hcs]at o';exact o'
theorem Own.bf{b off:Nat}{cs cs':List Value}{T:TypeId}{v:Value}{KH:KT}(o:Own h0 h L)(i:Nat)(hi:L[i]? =some (aj b cs T))(hle:Nat.blt off cs.length=true)(hcs:over cs off [v]=cs')(hv:v.cells= #[v])(hp:plainCell v=true)
  (hk:∀h',Own h0 h' (L.set i (aj b cs' T))->KH undef h'):aC 1 (.pointer (some ⟨b,off,none⟩)) v h KH:=
 o.st i hi (l:=[v]) hv rfl hle hcs (by simpa using hp) hk
theorem Own.bN{b off n:Nat}{cs cs':List Value}{T:TypeId}{K:Value->Prop}(o:Own h0 h L)(i:Nat)(hi:L[i]? =some (aj b cs T))(hle:Nat.ble (off+n) cs.length=true)(hcs:(cs.drop off).take n=cs')(hk:K (.agg cs'.toArray)):aZ n h (.pointer (some ⟨b,off,none⟩)) K:=
 o.Y4 i hi (Nat.le_of_ble_eq_true hle) (by rw[hcs];exact hk)
theorem Own.mW(o:Own h0 h L):Own h0 h (L++ []):=by rwa[List.append_nil]
theorem Own.fm(o:Own h0 h (L++ [])):Own h0 h L:=by rwa[List.append_nil]at o
theorem Own.ri(o:Own h0 h L)(x:Ext h h'):Ext h0 h':=(o.more x).ext
end
theorem cg{σ:Type}{B:σ->aa->(σ->aa->Prop)->Prop}{x:σ}{h:aa}(N:Nat)(I:Nat->σ->aa->Prop)(h0:I 0 x h)
  (step:∀(i:Nat)(x:σ)(h:aa)(Z:σ->aa->Prop),i<=N->I i x h->(∀x' h',i<N->I (i+1) x' h'->Z x' h')->B x h Z):bK B x h:=by
 intro Z hZ;have key:∀k i x h,N-i=k->i<=N->I i x h->Z x h:=by
  intro k
  induction k with
  |zero=>intro i x h hk hi hI;exact hZ x h (step i x h Z hi hI λx' h' hlt=>by omega)
  |succ k ih=>intro i x h hk hi hI;exact hZ x h (step i x h Z hi hI λx' h' hlt a=>ih (i+1) x' h' (by omega) (by omega) a)
 exact key _ 0 x h rfl (Nat.zero_le _) h0
theorem pW{σ:Type}{B:σ->aa->(σ->aa->Prop)->Prop}{x:σ}{h:aa}(I:Nat->σ->aa->Prop){k0:Nat}(h0:I k0 x h)
  (step:∀(k:Nat)(x:σ)(h:aa)(Z:σ->aa->Prop),I k x h->(∀x' h' k',k'<k->I k' x' h'->Z x' h')->B x h Z):bK B x h:=by
 intro Z hZ;have key:∀k x h,I k x h->Z x h:=by
  intro k
  induction k using Nat.strongRecOn with
  |_ k ih=>intro x h hI;exact hZ x h (step k x h Z hI λx' h' k' hlt a=>ih k' hlt x' h' a)
 exact key _ x h h0
theorem wI(n:Nat)(hn:n<9223372036854775807):IntKind.i64.wrap ((n:Int)+1)=((n+1:Nat):Int):=by rw[bG (by omega) (by omega)];rfl
section
variable{α:Type}{enc:α->List Value}{n:Nat}{T:TypeId}{h0 h:aa}{v:Value}{ys xs:List α}{KP:aa->Prop}{KH:KT}{L:List aM}
theorem Y7{rest:List Value}{j:Nat}(he:∀a,(enc a).length=n)(hj:j+ys.length<=xs.length):
  over (row enc xs++rest) (j*n) (row enc ys)=row enc (xs.take j++ys++xs.drop (j+ys.length))++rest:=by
 have hl:=gi he xs;have hm:(j+ys.length)*n<=xs.length*n:=Nat.mul_le_mul_right n hj;rw[Nat.add_mul]at hm;unfold over;rw[gi he ys,List.take_append_of_le_length (by omega),y7 he,<-Nat.add_mul,List.drop_append_of_le_length (by rw[Nat.add_mul];omega),y8 he,oH,oH];simp[List.append_assoc]
theorem Own.vO{j:Nat}(o:Own h0 h L)(i:Nat)(hi:L[i]? =some (aA enc n T v xs))(he:∀a,(enc a).length=n)(hp:∀a,∀u∈enc a,plainCell u=true){bl:Nat}(H:dL enc n T h v bl xs)(hb:oK v bl)(hj:j+ys.length<=xs.length)
  (hk:∀h',Own h0 h' (L.set i (aA enc n T v (xs.take j++ys++xs.drop (j+ys.length))))->KP h'):kX h bl (j*n) (row enc ys) KP:=by
 rcases H with ⟨rfl,_⟩|⟨cap,rest,rfl,hbk,hr,hle⟩
 ·exact hb.elim
 have hl:=gi he xs;have c:=gi he ys;have hm:(j+ys.length)*n<=xs.length*n:=Nat.mul_le_mul_right n hj;rw[Nat.add_mul]at hm;have hlen:(xs.take j++ys++xs.drop (j+ys.length)).length=xs.length:=by simp;omega
 refine s8 _ _ _ _ hbk (by rw[List.length_append];omega) (λu hu=> ?_) (hk _ ?_)
 ·simp only[row,List.mem_flatMap]at hu;obtain⟨a,_,ha⟩:=hu;exact hp a u ha
 ·rw[Y7 he hj];refine o.set i hi (bB.bn _ _ rfl) (q9 (bl:=bl) (.inr ⟨cap,rest,by rw[hlen],gA hbk,by rw[hlen];exact hr,by rw[hlen];exact hle⟩)) λb hb'=>⟨.inl hb',?_⟩;have :b=bl:=hb';subst this;rw[gx];exact dN hbk
end
section
variable{P:Program}{fv:Value}{Q Q':aa->Prop}
theorem gP.map{σ a:Type}{s0:σ}{t0:a}{next :σ->List Value->σ->Prop}{stop:σ->Prop}{next':a->List Value->a->Prop}{stop':a->Prop}(g:σ->a)(h:gP P fv Q s0 next stop)
  (h0:g s0=t0) (hn:∀s x s',next s x s'->next' (g s) x (g s')) (hs:∀s,stop s->stop' (g s)):gP P fv Q t0 next' stop':=by
 intro yv b0 h1 c K J E hl o d hQ hY hK;refine h yv b0 h1 c K (λs=>J (g s)) E hl o (h0▸d) (λs b h' hj=>hQ _ b h' hj) (λs x s' b Pr h' R hx=>hY _ _ _ b Pr h' R (hn _ _ _ hx)) λb h' e=>hK b h' ?_;rcases e with ⟨s,h1,h2⟩|h
 ·exact .inl ⟨_,hs _ h1,h2⟩
 ·exact .inr h
theorem Iter.toS{n:Nat}{f:(i:Nat)->i<n->List Value}{S:List Value->Prop}(h:Iter P fv Q n f)(hS:∀i hi,S (f i hi)):C4 P fv Q S:=
 h.map (λ_=>()) rfl (λs x s'⟨⟨hi,e⟩,_⟩=>e▸hS _ hi) λ_ _=>trivial
theorem gP.need{σ:Type}{s0:σ}{next :σ->List Value->σ->Prop}{stop:σ->Prop}(h:gP P fv Q s0 next stop)(hq:∀h,Q' h->Q h):gP P fv Q' s0 next stop:=
 λyv b0 h1 a K J E hl o b hQ hY hK=>h yv b0 h1 a K J E hl o b (λs c h' hj o'=>hq _ (hQ s c h' hj o')) hY hK
end
theorem bU{P:Program}{f:Nat}{first captured:Array Value}{args l:List Value}{h:aa}{K:KT}(e:first.toList++args++captured.toList=l)(hc:aE P f l.toArray h K):
  aS P (.func (.func f) first captured) args.toArray h K:=by
 have :first ++args.toArray++captured=l.toArray:=by
  apply Array.ext';simp[<-e]
 refine Y0 ?_;rw[this];exact hc
theorem iJ{P:Program}{f:Nat}{first captured:Array Value}{args:Array Value}{l:List Value}{h:aa}{K:KT}(e:first.toList++args.toList++captured.toList=l)(hc:aE P f l.toArray h K):
  sU P (.func (.func f) first captured) args h K:=by
 have :first ++args++captured=l.toArray:=by
  apply Array.ext';simp[<-e]
 show aE P f (first ++args++captured) h K;rw[this];exact hc
def C8(n:Nat):List (Nat×Nat×Value)->Bool
 | []=>true
 |(off,size,v)::r=>Nat.beq v.cells.size size&&(Nat.ble (off+size) n&&C8 n r)
theorem bW:∀{n:Nat}{l:List (Nat×Nat×Value)},C8 n l=true->kW n l
 |_,[],_=>trivial
 |_,_::_,h=>by
  simp only[C8,Bool.and_eq_true]at h;exact⟨Nat.eq_of_beq_eq_true h.1,Nat.le_of_ble_eq_true h.2.1,bW h.2.2⟩
section
variable{α:Type}{enc:α->List Value}{n:Nat}{T:TypeId}{h0 h:aa}{x:Value}{KH:KT}{L:List aM}{k k':IntKind}
theorem Own.JT{bytes m:Nat}{zero:List Value}(o:Own h0 h L)(hb:(bytes:Int)*m<=2^48)(hm:m<2^63)
  (hK:∀bl h',Own h0 h' (aj bl (List.replicate m zero).flatten T::L)->KH (.slice (some ⟨bl,0,none⟩) m m) h'):c9 T bytes zero (.int k m) (.int k' m) h KH:=by
 refine⟨by omega,Int.le_refl _,hb,by omega,?_⟩;simp only[Int.toNat_natCast];exact hK h.size _ (o.new (r:=aj h.size _ T) fO λb hb=>hb)
theorem Own.Y8{bytes bl off len cap:Nat}{zero cs:List Value}{e:α->Value}{a:α}(o:Own h0 h L)(i:Nat)(hi:L[i]? =some (aj bl cs T))(he:∀a,enc a=[e a])(hp:plainCell (e a)=true)(hx:Vw enc 1 h x [a])(hlen:len+1<=cap)(hpos:off+len<cs.length)
  (hK:∀h',Own h0 h' (L.set i (aj bl (cs.set (off+len) (e a)) T))->KH (.slice (some ⟨bl,off,none⟩) (len+1) cap) h'):cZ T 1 bytes zero (.slice (some ⟨bl,off,none⟩) len cap) x h KH:=by
 obtain⟨c,xc,rfl,hc⟩:=hx.cells λa=>by rw[he];rfl
 have d:gM h 1 1 c=some [e a]:=by
  have e1:Mh.row enc [a]=[e a]:=by simp[row,he]
  rw[<-e1];exact hc
 simp only[cZ,List.length_singleton,d];rw[if_pos hlen,Nat.mul_one];have hb:h[bl]? =some (.cells cs.toArray T (0,0)):=o.get i hi;have hlt:=((o.q hi).2 bl rfl).2;refine s8 _ _ _ _ hb (by show off+len+1<=_;omega) (by simpa using hp) (hK _ ?_);have g:over cs (off+len) [e a]=cs.set (off+len) (e a):=by rw[List.set_eq_take_append_cons_drop,if_pos hpos];simp[over]
 rw[g];refine o.set i hi (bB.bn _ _ rfl) (gN hlt) λb hb'=>⟨.inl hb',?_⟩;rw[gx];exact(show b=bl from hb')▸hlt
end
theorem Vw.vP{h:aa}{v:Value}{ys:List Int}{i:Nat}{z:Int}{k:IntKind}{K:Value->Prop}(H:Vw aG 1 h v ys)(hq:ys[i]? =some z)(hk:K (I z)):aW 1 v (.int k i) (λt=>af h t K):=by
 obtain⟨hi,rfl⟩:=List.getElem?_eq_some_iff.1 hq;exact H.cV hi hk
theorem lg{h h':aa}{a:Addr}{v:Value}(x:Ext h h')(hc:hcell h a=some v):hcell h' a=some v:=by
 unfold hcell at *;split at hc
 ·rename_i c T fz hb;rw[x.get hb];exact hc
 ·cases hc
theorem Vw.vQ{h:aa}{v:Value}{ys:List Int}{i:Nat}{k:IntKind}{K:Value->Prop}(H:Vw aG 1 h v ys)(hi:i<ys.length)(hK:∀b o,hcell h ⟨b,o,none⟩=some (I ys[i])->K (.pointer (some ⟨b,o,none⟩))):aW 1 v (.int k i) K:=
 H.idx (λ_=>rfl) hi λb o hc=>hK b o (by simpa[aG]using hc 0 (by omega))
open Go
section
variable{P:Program}{h0 h h':aa}{L:List aM}{i b off n:Nat}
theorem Own.comm:∀{L L':List aM},Own h0 h (L++L')->Own h0 h (L'++L)
 | [],L',o=>by rw[List.append_nil];exact o
 |r::L,L',o=>by
  have o1:Own h0 h ((L++L')++ [r]):=Own.mT o;rw[List.append_assoc]at o1;have o2:=Own.comm o1;rw[List.append_assoc]at o2;exact o2
def zf(P:Program)(fv:Value){σ:Type}(Q:σ->aa->Prop)(e:List aM)(s0:σ)(next :σ->List Value->σ->Prop)(stop:σ->Prop):Prop:=
 ∀ (yv:Value) (h0 h:aa) (d:List aM) (K:KT) (J:σ->List aM->Prop) (E:List aM->Prop),(∃l,yv=dm l)->
  Own h0 h (d++e)->J s0 d->(∀s a h',J s a->Own h0 h' a->Q s h')->
  (∀s x s' a Pr h' R,next s x s'->J s a->Own h0 h' (a++Pr)->(∀c h'',J s' c->Own h0 h'' (c++Pr)->R (.bool true) h'')->
   (∀c h'',E c->Own h0 h'' (c++Pr)->R (.bool false) h'')->aS P yv x.toArray h' R)->
  (∀a h',((∃s,stop s/\J s a)\/E a)->Own h0 h' a->K (.tuple #[]) h')->sU P fv #[yv] h K
theorem Own.JU{fv:Value}{j:List aM}{σ:Type}{Q:σ->aa->Prop}{s0:σ}{next :σ->List Value->σ->Prop}{stop:σ->Prop}{ps:List Nat}{B:Loop->bw ps->aa->(Exit->aa->Prop)->Prop}{q t:aa->Prop}{u:List (Nat×(aa->Prop))}
  (o:Own h0 h (L++j)) (hI:zf P fv Q j s0 next stop) (hf:∀s x s',next s x s'->x.length=ps.length) (J:σ->List aM->Prop) (k:List aM->Prop) (l:Nat->List aM->Prop)
  (v:J s0 L) (hQ:∀s d h',J s d->Own h0 h' d->Q s h')
  (step:∀M s x s' d Pr h'(R:Exit->aa->Prop),next s x s'->J s d->Own h0 h' (b6 (h.size+1) (lo M .ready none)::bX h.size::(d++Pr))->
   (∀a h'',J s' a->Own h0 h'' (b6 (h.size+1) (lo M .busy none)::bX h.size::(a++Pr))->R .normal h'')->
   (∀a h'',k a->Own h0 h'' (b6 (h.size+1) (lo M .busy none)::bX h.size::(a++Pr))->R .ret h'')->
   (∀id a h'',l id a->Own h0 h'' (b6 (h.size+1) (lo M .busy none)::bX h.size::(a++Pr))->R (.exit id) h'')->B M (fk ps x) h' R)
  (fin:∀s h' d,stop s->J s d->Own h0 h' (bX h.size::d)->q h') (w:∀h' d,k d->Own h0 h' (bX h.size::d)->t h')
  (y:∀id h' d,l id d->Own h0 h' (bX h.size::d)->qS u id h'):
  gd P fv ps (h.size+1) (h.push (.deferred (some []))) B q t u:=by
 intro M hy;have e1:(h.push (.deferred (some []))).size=h.size+1:=pT;have o1:Own h0 (h.push (.deferred (some []))) (bX h.size::(L++j)):=o.new (r:=bX h.size) fO λb hb=>hb;have o2:Own h0 ((h.push (.deferred (some []))).push (lo M .ready none)) (b6 (h.size+1) (lo M .ready none)::bX h.size::(L++j)):=
  o1.new (r:=b6 (h.size+1) (lo M .ready none)) (by show(Array.push _ _)[h.size+1]? =_;rw[<-e1,fO]) λb hb=>hb.trans e1.symm
 refine hI (dm (h.size+1)) h0 _ _ _ (λs m=>∃f,m=b6 (h.size+1) (lo M .ready none)::bX h.size::f/\J s f)
  (λm=>∃p f,m=b6 (h.size+1) (lo M .done (some p))::bX h.size::f/\((p=.ret/\k f)\/∃id,p=.exit id/\l id f)) ⟨_,rfl⟩ o2 ⟨L,rfl,v⟩
  (λs d h'⟨f,e,hj⟩ o'=>hQ s f h' hj (by subst e;exact o'.tail.tail)) ?_ ?_
 ·rintro s x s' _ Pr h' R hn ⟨f,rfl,hj⟩ o' hT hF;have hb:h'[h.size+1]? =some (lo M .ready none):=o'.get 0 rfl;have :=hy (fk ps x) h' R .ready none hb;rw[ze (hf _ _ _ hn)]at this;refine this (step M s x s' f Pr h' _ hn hj o' ?_ ?_ ?_)
  ·intro a h'' hj' g;have hb':h''[h.size+1]? =some (lo M .busy none):=g.get 0 rfl;have hlt:=dN hb';refine⟨none,hb',hT (b6 (h.size+1) (lo M .ready none)::bX h.size::a) _ ⟨a,rfl,hj'⟩ ?_⟩;refine g.set 0 (r':=b6 (h.size+1) (lo M .ready none)) rfl (bB.bn (S:=(b6 (h.size+1) (lo M .busy none)).F) h'' _ rfl) (gN hlt) λc hc=>⟨.inl hc,?_⟩;rw[nM,gx];exact(show c=h.size+1 from hc)▸hlt
  ·intro a h'' hj' g;have hb':h''[h.size+1]? =some (lo M .busy none):=g.get 0 rfl;have hlt:=dN hb';refine⟨none,hb',hF (b6 (h.size+1) (lo M .done (some .ret))::bX h.size::a) _ ⟨.ret,a,rfl,.inl ⟨rfl,hj'⟩⟩ ?_⟩;refine g.set 0 (r':=b6 (h.size+1) (lo M .done (some .ret))) rfl (bB.bn (S:=(b6 (h.size+1) (lo M .busy none)).F) h'' _ rfl) (gN hlt) λc hc=>⟨.inl hc,?_⟩;rw[nM,gx];exact(show c=h.size+1 from hc)▸hlt
  ·intro id a h'' hj' g;have hb':h''[h.size+1]? =some (lo M .busy none):=g.get 0 rfl;have hlt:=dN hb';refine⟨none,hb',hF (b6 (h.size+1) (lo M .done (some (.exit id)))::bX h.size::a) _ ⟨.exit id,a,rfl,.inr ⟨id,rfl,hj'⟩⟩ ?_⟩;refine g.set 0 (r':=b6 (h.size+1) (lo M .done (some (.exit id)))) rfl (bB.bn (S:=(b6 (h.size+1) (lo M .busy none)).F) h'' _ rfl) (gN hlt) λc hc=>⟨.inl hc,?_⟩;rw[nM,gx];exact(show c=h.size+1 from hc)▸hlt
 ·have close:∀{f:List aM}{h':aa}{st:LoopState}{p:Option Code},Own h0 h' (b6 (h.size+1) (lo M st p)::bX h.size::f)->Own h0 (bn h' (h.size+1) (lo M .exhausted p)) (bX h.size::f):=by
   intro f h' st p o';have hb':h'[h.size+1]? =some (lo M st p):=o'.get 0 rfl;have hlt:=dN hb';exact(o'.set 0 (r':=gO) rfl (bB.bn (S:=(b6 (h.size+1) (lo M st p)).F) h' (lo M .exhausted p) rfl) trivial λc hc=>hc.elim).tail
  rintro d h' (⟨s,hs,f,rfl,hj⟩|⟨p,f,rfl,hp⟩) o'
  ·exact⟨.ready,none,by decide,o'.get 0 rfl,fin _ _ _ hs hj (close o')⟩
  ·refine⟨.done,some p,by decide,o'.get 0 rfl,?_⟩;rcases hp with ⟨rfl,he⟩|⟨id,rfl,he⟩
   ·exact w _ _ he (close o')
   ·exact y _ _ _ he (close o')
end
open Go
section
variable{P:Program}{h0 h h':aa}{L:List aM}{i b off n:Nat}
def C9(P:Program)(fv:Value){σ:Type}(Q:aa->Prop)(s0:σ)(next :σ->List Value->aM->σ->Prop)(stop:σ->Prop):Prop:=
 ∀ (yv:Value) (h0 h:aa) (d:List aM) (K:KT) (J:σ->List aM->Prop) (E:List aM->Prop),(∃l,yv=dm l)->
  Own h0 h d->J s0 d->(∀s a h',J s a->Own h0 h' a->Q h')->
  (∀s x X s' a Pr h' R,next s x X s'->J s a->Own h0 h' (X::(a++Pr))->(∀c h'',J s' c->Own h0 h'' (c++Pr)->R (.bool true) h'')->
   (∀c h'',E c->Own h0 h'' (c++Pr)->R (.bool false) h'')->aS P yv x.toArray h' R)->
  (∀a h',((∃s,stop s/\J s a)\/E a)->Own h0 h' a->K (.tuple #[]) h')->sU P fv #[yv] h K
theorem Own.Y9{fv:Value}{σ:Type}{Q:aa->Prop}{s0:σ}{next :σ->List Value->aM->σ->Prop}{stop:σ->Prop}{ps:List Nat}{B:Loop->bw ps->aa->(Exit->aa->Prop)->Prop}{m q:aa->Prop}{t:List (Nat×(aa->Prop))}
  (o:Own h0 h L) (hI:C9 P fv Q s0 next stop) (hf:∀s x X s',next s x X s'->x.length=ps.length) (J:σ->List aM->Prop) (j:List aM->Prop) (k:Nat->List aM->Prop)
  (u:J s0 L) (hQ:∀s f h',J s f->Own h0 h' f->Q h')
  (step:∀M s x X s' f Pr h'(R:Exit->aa->Prop),next s x X s'->J s f->Own h0 h' (b6 (h.size+1) (lo M .ready none)::X::bX h.size::(f++Pr))->
   (∀a h'',J s' a->Own h0 h'' (b6 (h.size+1) (lo M .busy none)::bX h.size::(a++Pr))->R .normal h'')->
   (∀a h'',j a->Own h0 h'' (b6 (h.size+1) (lo M .busy none)::bX h.size::(a++Pr))->R .ret h'')->
   (∀id a h'',k id a->Own h0 h'' (b6 (h.size+1) (lo M .busy none)::bX h.size::(a++Pr))->R (.exit id) h'')->B M (fk ps x) h' R)
  (fin:∀s h' f,stop s->J s f->Own h0 h' (bX h.size::f)->m h') (v:∀h' f,j f->Own h0 h' (bX h.size::f)->q h')
  (w:∀id h' f,k id f->Own h0 h' (bX h.size::f)->qS t id h'):
  gd P fv ps (h.size+1) (h.push (.deferred (some []))) B m q t:=by
 intro M hy;have e1:(h.push (.deferred (some []))).size=h.size+1:=pT;have o1:Own h0 (h.push (.deferred (some []))) (bX h.size::L):=o.new (r:=bX h.size) fO λb hb=>hb;have o2:Own h0 ((h.push (.deferred (some []))).push (lo M .ready none)) (b6 (h.size+1) (lo M .ready none)::bX h.size::L):=
  o1.new (r:=b6 (h.size+1) (lo M .ready none)) (by show(Array.push _ _)[h.size+1]? =_;rw[<-e1,fO]) λb hb=>hb.trans e1.symm
 refine hI (dm (h.size+1)) h0 _ _ _ (λs l=>∃d,l=b6 (h.size+1) (lo M .ready none)::bX h.size::d/\J s d)
  (λl=>∃p d,l=b6 (h.size+1) (lo M .done (some p))::bX h.size::d/\((p=.ret/\j d)\/∃id,p=.exit id/\k id d)) ⟨_,rfl⟩ o2 ⟨L,rfl,u⟩
  (λs f h'⟨d,e,hj⟩ o'=>hQ s d h' hj (by subst e;exact o'.tail.tail)) ?_ ?_
 ·rintro s x X s' _ Pr h' R hn ⟨d,rfl,hj⟩ o' hT hF;have o':Own h0 h' (b6 (h.size+1) (lo M .ready none)::X::bX h.size::(d++Pr)):=Own.swap o';have hb:h'[h.size+1]? =some (lo M .ready none):=o'.get 0 rfl;have :=hy (fk ps x) h' R .ready none hb;rw[ze (hf _ _ _ _ hn)]at this;refine this (step M s x X s' d Pr h' _ hn hj o' ?_ ?_ ?_)
  ·intro a h'' hj' g;have hb':h''[h.size+1]? =some (lo M .busy none):=g.get 0 rfl;have hlt:=dN hb';refine⟨none,hb',hT (b6 (h.size+1) (lo M .ready none)::bX h.size::a) _ ⟨a,rfl,hj'⟩ ?_⟩;refine g.set 0 (r':=b6 (h.size+1) (lo M .ready none)) rfl (bB.bn (S:=(b6 (h.size+1) (lo M .busy none)).F) h'' _ rfl) (gN hlt) λc hc=>⟨.inl hc,?_⟩;rw[nM,gx];exact(show c=h.size+1 from hc)▸hlt
  ·intro a h'' hj' g;have hb':h''[h.size+1]? =some (lo M .busy none):=g.get 0 rfl;have hlt:=dN hb';refine⟨none,hb',hF (b6 (h.size+1) (lo M .done (some .ret))::bX h.size::a) _ ⟨.ret,a,rfl,.inl ⟨rfl,hj'⟩⟩ ?_⟩;refine g.set 0 (r':=b6 (h.size+1) (lo M .done (some .ret))) rfl (bB.bn (S:=(b6 (h.size+1) (lo M .busy none)).F) h'' _ rfl) (gN hlt) λc hc=>⟨.inl hc,?_⟩;rw[nM,gx];exact(show c=h.size+1 from hc)▸hlt
  ·intro id a h'' hj' g;have hb':h''[h.size+1]? =some (lo M .busy none):=g.get 0 rfl;have hlt:=dN hb';refine⟨none,hb',hF (b6 (h.size+1) (lo M .done (some (.exit id)))::bX h.size::a) _ ⟨.exit id,a,rfl,.inr ⟨id,rfl,hj'⟩⟩ ?_⟩;refine g.set 0 (r':=b6 (h.size+1) (lo M .done (some (.exit id)))) rfl (bB.bn (S:=(b6 (h.size+1) (lo M .busy none)).F) h'' _ rfl) (gN hlt) λc hc=>⟨.inl hc,?_⟩;rw[nM,gx];exact(show c=h.size+1 from hc)▸hlt
 ·have close:∀{d:List aM}{h':aa}{st:LoopState}{p:Option Code},Own h0 h' (b6 (h.size+1) (lo M st p)::bX h.size::d)->Own h0 (bn h' (h.size+1) (lo M .exhausted p)) (bX h.size::d):=by
   intro d h' st p o';have hb':h'[h.size+1]? =some (lo M st p):=o'.get 0 rfl;have hlt:=dN hb';exact(o'.set 0 (r':=gO) rfl (bB.bn (S:=(b6 (h.size+1) (lo M st p)).F) h' (lo M .exhausted p) rfl) trivial λc hc=>hc.elim).tail
  rintro f h' (⟨s,hs,d,rfl,hj⟩|⟨p,d,rfl,hp⟩) o'
  ·exact⟨.ready,none,by decide,o'.get 0 rfl,fin _ _ _ hs hj (close o')⟩
  ·refine⟨.done,some p,by decide,o'.get 0 rfl,?_⟩;rcases hp with ⟨rfl,he⟩|⟨id,rfl,he⟩
   ·exact v _ _ he (close o')
   ·exact w _ _ _ he (close o')
end
end Go.Mh

namespace Go.Mh.KM
open Go Go.Mh
variable{κ:Type}[DecidableEq κ]
abbrev dr(κ:Type):=κ×Value×Nat
def cr(ke:κ->Value)(x:dr κ):MapEntry:={key:=ke x.1,val:=x.2.1,born:=x.2.2}
def lk(k:κ):List (dr κ)->Option Value
 | []=>none
 |x::r=>if x.1=k then some x.2.1 else lk k r
def fi(k:κ):List (dr κ)->Nat->Option (Nat×Value)
 | [],_=>none
 |x::r,j=>if x.1=k then some (j,x.2.1)else fi k r (j+1)
structure KE(κ:Type)[DecidableEq κ]where
 ke:κ->Value
 kd:TypeDesc
 inj:∀a b,ke a=ke b->a=b
 find:∀(k:κ)(t:List (dr κ)),jE kd (ke k) (t.map (cr ke))=some (fi k t 0)
variable{Q:KE κ}
structure kg(Q:KE κ)(es:Array MapEntry)(clock:Nat)(t:List (dr κ)):Prop where
 gB:es.toList=t.map (cr Q.ke)
 keys:(t.map (·.1)).Nodup
 pU:(t.map (·.2.2)).Nodup
 old:∀x∈t,x.2.2<clock
def IMap(Q:KE κ)(es:Array MapEntry)(clock:Nat)(f:κ->Option Value):Prop:=∃t,kg Q es clock t/\∀k,f k=lk k t
def cu(f:κ->Option Value)(k:κ)(v:Value):κ->Option Value:=λx=>if x=k then some v else f x
theorem zb(f:κ->Option Value)(k:κ)(x y:Value):cu (cu f k x) k y=cu f k y:=by
 funext z;unfold cu;split<;>rfl
theorem Da{k:κ}:∀{t:List (dr κ)}{j i:Nat}{v:Value},fi k t j=some (i,v)->j<=i/\∃x,t[i-j]? =some x/\x.1=k/\x.2.1=v
 | x::t,j,i,v,h=>by
  simp only[fi]at h;split at h
  ·rename_i hx;simp only[Option.some.injEq,Prod.mk.injEq]at h;obtain⟨rfl,rfl⟩:=h;exact⟨Nat.le_refl _,x,by simp,hx,rfl⟩
  ·obtain⟨h1,y,h2,h3⟩:=Da h;refine⟨by omega,y,?_,h3⟩;rw[show i-j=(i-(j+1))+1 by omega];simpa using h2
theorem oJ(k:κ):∀(t:List (dr κ))(j:Nat),(fi k t j).map (·.2)=lk k t
 | [],_=>rfl
 |x::t,j=>by
  simp only[fi,lk];split
  ·rfl
  ·exact oJ k t (j+1)
theorem pV{k:κ}:∀{t:List (dr κ)}{j:Nat},fi k t j=none->∀x∈t,x.1≠k
 | [],_,_=>by intro x hx;cases hx
 | x::t,j,h=>by
  simp only[fi]at h;split at h
  ·cases h
  ·rename_i hx;intro y hy;rcases List.mem_cons.1 hy with rfl|hy
   ·exact hx
   ·exact pV h y hy
theorem tc{k:κ}:∀{t:List (dr κ)},(∀x∈t,x.1≠k)->lk k t=none
 | [],_=>rfl
 |x::t,h=>by
  simp only[lk,if_neg (h x List.mem_cons_self)];exact tc λy hy=>h y (List.mem_cons_of_mem _ hy)
theorem C3{k:κ}{t s:List (dr κ)}:lk k (t++s)=(lk k t).orElse λ_=>lk k s:=by
 induction t with
 |nil=>rfl
 |cons x t ih=>
  simp only[List.cons_append,lk];split
  ·rfl
  ·exact ih
theorem qZ{k:κ}{g:dr κ->dr κ}:∀{t:List (dr κ)}{j i:Nat}{v:Value},(t.map (·.1)).Nodup->fi k t j=some (i,v)->
  j<=i/\t.modify (i-j) g=t.map (λx=>if x.1=k then g x else x)
 | x::t,j,i,v,hn,h=>by
  simp only[List.map_cons,List.nodup_cons]at hn;simp only[fi]at h;split at h
  ·rename_i hx;simp only[Option.some.injEq,Prod.mk.injEq]at h;obtain⟨rfl,rfl⟩:=h;refine⟨Nat.le_refl _,?_⟩;simp only[Nat.sub_self,List.modify_zero_cons,List.map_cons,if_pos hx];congr 1;have :∀y∈t,y.1≠k:=λy hy e=>hn.1 (by rw[hx,<-e];exact List.mem_map_of_mem hy);symm;rw[List.map_congr_left (g:=id) (λy hy=>by simp[this y hy])];simp
  ·rename_i hx;obtain⟨h1,h2⟩:=qZ (g:=g) hn.2 h;refine⟨by omega,?_⟩;rw[show i-j=(i-(j+1))+1 by omega];simp only[List.modify_succ_cons,List.map_cons,if_neg hx,h2]
theorem vK{k k':κ}{v:Value}:∀{t:List (dr κ)},lk k' (t.map λx=>if x.1=k then(x.1,v,x.2.2)else x)=if k'=k then(lk k t).map (λ_=>v)else lk k' t
 | []=>by simp[lk]
 | x::t=>by
  have ih:=vK (k:=k) (k':=k') (v:=v) (t:=t);simp only[List.map_cons,lk];by_cases hx:x.1=k
  ·simp only[if_pos hx];by_cases hk:k'=k
   ·simp[hk,hx]
   ·have :¬x.1=k':=λe=>hk (by rw[<-e,hx]);simp only[this,if_false,hk]at ih ⊢;exact ih
  ·simp only[if_neg hx];by_cases hk:x.1=k'
   ·have :¬k'=k:=λe=>hx (by rw[hk,e]);simp[hk,this]
   ·simp only[if_neg hk];exact ih
theorem IMap.empty:IMap Q #[] 0 (λ_=>none):=⟨[],⟨rfl,by simp,by simp,by simp⟩,λ_=>rfl⟩
section
variable{h:aa}{m c:Nat}{es:Array MapEntry}{f:κ->Option Value}
theorem td{z:Value}{ok:Bool}{k:κ}{K:Value->Prop}(hm:h[m]? =some (.map es c))(hi:IMap Q es c f)
  (hk:K (if ok then .tuple #[(f k).getD z,.bool (f k).isSome]else(f k).getD z)):de Q.kd z ok h (.map (some m)) (Q.ke k) K:=by
 obtain⟨t,ht,hf⟩:=hi;simp only[de,hm,ht.gB,Q.find];have hlk:=oJ k t 0;rw[hf k,<-hlk]at hk;cases a:fi k t 0 with
 |none=>rw[a]at hk;simpa using hk
 |some p=>rw[a]at hk;simpa using hk
theorem kg.set {t:List (dr κ)} {i:Nat} {k:κ} {v old:Value} (ht:kg Q es c t) (a:fi k t 0=some (i,old)):
  kg Q (es.modify i λe=>{e with key:=Q.ke k,val:=v}) c (t.map λx=>if x.1=k then(x.1,v,x.2.2)else x):=by
 have hm:=(qZ (g:=λx=>(x.1,v,x.2.2)) ht.keys a).2;rw[Nat.sub_zero]at hm;refine⟨?_,?_,?_,?_⟩
 ·rw [Array.toList_modify,ht.gB,<-hm];apply List.ext_getElem
  ·simp
  ·intro j h1 h2;simp only[List.getElem_modify,List.getElem_map];split
   ·rename_i e;subst e;have hlt:i<t.length:=by simpa using h1
    have :(t.modify i λx=>(x.1,v,x.2.2))[i]? =(t.map λx=>if x.1=k then(x.1,v,x.2.2)else x)[i]? :=by rw[hm]
    have hkey:t[i].1=k:=by
     have key:∀(t:List (dr κ))(j i:Nat),fi k t j=some (i,old)->∃hlt:i-j<t.length,t[i-j].1=k/\j<=i:=by
      intro t
      induction t with
      |nil=>intro j i h;cases h
      | cons x t ih=>
       intro j i h;simp only[fi]at h;split at h
       ·rename_i hx;simp only[Option.some.injEq,Prod.mk.injEq]at h;obtain⟨rfl,_⟩:=h;exact⟨by simp,by simpa using hx,Nat.le_refl _⟩
       ·obtain⟨h1,h2,h3⟩:=ih _ _ h;refine⟨by simp;omega,?_,by omega⟩;have :i-j=(i-(j+1))+1:=by omega
        simp only[this,List.getElem_cons_succ];exact h2
     obtain⟨_,h2,_⟩:=key t 0 i a;simpa using h2
    simp[cr,hkey]
   ·rfl
 ·have :(t.map λx=>if x.1=k then(x.1,v,x.2.2)else x).map (·.1)=t.map (·.1):=by
   rw[List.map_map];apply List.map_congr_left;intro x _;simp only[Function.comp];split<;>rfl
  rw[this];exact ht.keys
 ·have :(t.map λx=>if x.1=k then(x.1,v,x.2.2)else x).map (·.2.2)=t.map (·.2.2):=by
   rw[List.map_map];apply List.map_congr_left;intro x _;simp only[Function.comp];split<;>rfl
  rw[this];exact ht.pU
 ·intro x hx;obtain⟨y,hy,rfl⟩:=List.mem_map.1 hx;have :=ht.old y hy;split<;>exact this
theorem kg.push{t:List (dr κ)}{k:κ}{v:Value}(ht:kg Q es c t)(d:fi k t 0=none):
  kg Q (es.push {key:=Q.ke k,val:=v,born:=c}) (c+1) (t++ [(k,v,c)]):=by
 refine⟨by simp[ht.gB,cr],?_,?_,?_⟩
 ·rw[List.map_append,List.nodup_append];refine⟨ht.keys,by simp,?_⟩;intro a ha b hb;obtain⟨x,hx,rfl⟩:=List.mem_map.1 ha;simp only[List.map_cons,List.map_nil,List.mem_singleton]at hb;subst hb;exact pV d x hx
 ·rw[List.map_append,List.nodup_append];refine⟨ht.pU,by simp,?_⟩;intro a ha b hb;obtain⟨x,hx,rfl⟩:=List.mem_map.1 ha;simp only[List.map_cons,List.map_nil,List.mem_singleton]at hb;subst hb;exact Nat.ne_of_lt (ht.old x hx)
 ·intro x hx;rcases List.mem_append.1 hx with hx|hx
  ·exact Nat.lt_succ_of_lt (ht.old x hx)
  ·rw[List.mem_singleton.1 hx];exact Nat.lt_succ_self _
theorem tf{t:List (dr κ)}{k:κ}{v old:Value}{i:Nat}(a:fi k t 0=some (i,old))(x:κ):
  lk x (t.map λx=>if x.1=k then(x.1,v,x.2.2)else x)=if x=k then some v else lk x t:=by
 rw[vK];split
 ·rw[<-oJ k t 0,a];rfl
 ·rfl
theorem zc{t:List (dr κ)}{k:κ}{v:Value}{b:Nat}(a:fi k t 0=none)(x:κ):
  lk x (t++ [(k,v,b)])=if x=k then some v else lk x t:=by
 rw[C3];by_cases hx:x=k
 ·subst hx;rw[tc (pV a)];simp[lk]
 ·have :¬k=x:=λe=>hx e.symm;simp[hx,lk,this]
def vL(Q:KE κ)(es:Array MapEntry)(s:Int)(k:κ):Prop:=∃e∈es.toList,e.key=Q.ke k/\(e.born:Int)=s
theorem vM{k:κ}{z:Value}{K:KT}(hm:h[m]? =some (.map es c))(hi:IMap Q es c f)
  (hk:∀es' c' s,IMap Q es' c' (cu f k ((f k).getD z))->vL Q es' s k->K (.tuple #[(f k).getD z,.int .i64 s]) (bn h m (.map es' c'))):
  j8 Q.kd z (.map (some m)) (Q.ke k) h K:=by
 obtain⟨t,ht,hf⟩:=hi;simp only[j8,hm,ht.gB,Q.find];have hlk:=oJ k t 0;cases a:fi k t 0 with
 |none=>
  rw[a]at hlk;have b:f k=none:=by rw[hf];exact hlk.symm
  rw[b]at hk;refine hk _ _ _ ⟨_,ht.push a,λx=>by rw[zc a];simp[cu,hf]⟩ ⟨{key:=Q.ke k,val:=z,born:=c},by simp,rfl,rfl⟩
 | some p=>
  obtain⟨i,v⟩:=p;rw[a]at hlk;have b:f k=some v:=by rw[hf];exact hlk.symm
  rw[b]at hk;have e8:=ht.set (v:=v) a;obtain⟨_,hmod⟩:=qZ (g:=λx=>x) ht.keys a;have hi:i<t.length:=by
   have key:∀(t:List (dr κ))(j i:Nat),fi k t j=some (i,v)->i-j<t.length/\j<=i:=by
    intro t
    induction t with
    |nil=>intro j i h;cases h
    | cons x t ih=>
     intro j i h;simp only[fi]at h;split at h
     ·simp only[Option.some.injEq,Prod.mk.injEq]at h;obtain⟨rfl,_⟩:=h;exact⟨by simp,Nat.le_refl _⟩
     ·obtain⟨h1,h2⟩:=ih _ _ h;exact⟨by simp;omega,by omega⟩
   simpa using(key t 0 i a).1
  have d:es[i]? =some (cr Q.ke t[i]):=by
   rw[<-Array.getElem?_toList,ht.gB];simp[hi]
  have l:t[i].1=k/\t[i].2.1=v:=by
   obtain⟨_,x,hx,h1,h2⟩:=Da a;rw[Nat.sub_zero,List.getElem?_eq_getElem hi]at hx;obtain rfl:=Option.some.inj hx;exact⟨h1,h2⟩
  have hsame:(es.modify i λe=>{e with key:=Q.ke k})=es.modify i λe=>{e with key:=Q.ke k,val:=v}:=by
   apply Array.ext
   ·simp
   ·intro j h1 h2;simp only[Array.getElem_modify];split
    ·rename_i e;subst e;have hlt:i<es.size:=by simpa using h1
     have :es[i]? =some es[i]:=Array.getElem?_eq_getElem hlt;rw[d]at this;simp only[Option.some.injEq]at this;rw[<-this];simp[cr,l.2]
    ·rfl
  dsimp only;rw[hsame,d];refine hk _ _ _ ⟨_,e8,λx=>by rw[tf a];simp[cu,hf]⟩ ?_;refine⟨{(cr Q.ke t[i])with key:=Q.ke k,val:=v},?_,rfl,rfl⟩;rw[Array.toList_modify];refine List.mem_of_getElem? (i:=i) ?_;simp[d]
theorem vN{k:κ}{s:Int}{v:Value}{K:KT}(hm:h[m]? =some (.map es c))(hi:IMap Q es c f)(hs:vL Q es s k)
  (hk:∀es',IMap Q es' c (cu f k v)->K undef (bn h m (.map es' c))):jF (.map (some m)) (.int .i64 s) v h K:=by
 obtain⟨t,ht,hf⟩:=hi;obtain⟨e,he,d,a⟩:=hs;rw[ht.gB]at he;obtain⟨x,hx,rfl⟩:=List.mem_map.1 he;simp only[cr]at d a;have g:x.1=k:=Q.inj _ _ d;simp only[jF,hm];have key:∀(t:List (dr κ)),(t.map (·.1)).Nodup->(t.map (·.2.2)).Nodup->x∈t->∃i,(t.map (cr Q.ke)).findIdx? (λe=>(e.born:Int)==s)=some i/\∀j,fi k t j=some (i+j,x.2.1):=by
  intro t
  induction t with
  |nil=>intro _ _ hx;cases hx
  | cons y t ih=>
   intro hk hb hx;simp only[List.map_cons,List.nodup_cons]at hk hb;by_cases hy:y=x
   ·subst hy;refine⟨0,?_,λj=>by simp[fi,g]⟩;simp[List.findIdx?_cons,cr,a]
   ·have hx':x∈t:=by
     rcases List.mem_cons.1 hx with h|h
     ·exact(hy h.symm).elim
     ·exact h
    obtain⟨i,h1,h2⟩:=ih hk.2 hb.2 hx';have l:¬((y.2.2:Int)=s):=by
     rw[<-a];intro e;have :y.2.2=x.2.2:=by exact_mod_cast e
     exact hb.1 (this▸List.mem_map_of_mem hx')
    have n:y.1≠k:=λe=>hk.1 (by rw[e,<-g];exact List.mem_map_of_mem hx');refine⟨i+1,?_,λj=> ?_⟩
    ·rw[List.map_cons,List.findIdx?_cons];simp only[cr,beq_iff_eq,l,if_false];rw[show(λ(e:MapEntry)=>(e.born:Int)==s)=λe=>(e.born:Int)==s from rfl,h1];rfl
    ·simp only[fi,if_neg n];rw[h2 (j+1)];congr 2;omega
 obtain⟨i,h1,h2⟩:=key t ht.keys ht.pU hx;have hidx:es.findIdx? (λe=>(e.born:Int)==s)=some i:=by
  have e:es=(t.map (cr Q.ke)).toArray:=Array.ext' ht.gB;rw[e,List.findIdx?_toArray];exact h1
 rw[hidx];have b:fi k t 0=some (i,x.2.1):=by simpa using h2 0
 have e8:=ht.set (v:=v) b;have hsame:(es.modify i λe=>{e with val:=v})=es.modify i λe=>{e with key:=Q.ke k,val:=v}:=by
  obtain⟨_,y0,hy0,hy1,_⟩:=Da b;rw[Nat.sub_zero]at hy0;have he:es[i]? =some (cr Q.ke y0):=by
   rw[<-Array.getElem?_toList,ht.gB,List.getElem?_map,hy0];rfl
  apply Array.ext
  ·simp
  ·intro j h1 h2;simp only[Array.getElem_modify];split
   ·rename_i e2;subst e2;have hlt:i<es.size:=by simpa using h1
    have h3:es[i]? =some es[i]:=Array.getElem?_eq_getElem hlt;rw[he]at h3;simp only[Option.some.injEq]at h3;rw[<-h3];simp[cr,hy1]
   ·rfl
 dsimp only;rw[hsame];exact hk _ ⟨_,e8,λx=>by rw[tf b];simp[cu,hf]⟩
end
end Go.Mh.KM

namespace Go.Mh
open Go
def mX{κ:Type}[DecidableEq κ](Q:KM.KE κ)(m:Nat)(f:κ->Option Value):aM:=⟨λb=>b=m,λh=>∃es c,h[m]? =some (.map es c)/\KM.IMap Q es c f,λhs⟨es,c,a,b⟩=>⟨es,c,(hs m rfl).trans a,b⟩⟩
section
variable{κ:Type}[DecidableEq κ]{Q:KM.KE κ}{h0 h:aa}{L:List aM}{m:Nat}{f:κ->Option Value}{K:Value->Prop}{KH:KT}{k:κ}{z v:Value}{ok:Bool}
theorem Own.Za(Q:KM.KE κ)(o:Own h0 h L)(hK:∀m h',Own h0 h' (mX Q m (λ_=>none)::L)->KH (.map (some m)) h'):bp h KH:=
 hK h.size _ (o.new (r:=mX Q h.size _) ⟨#[],0,fO,.empty⟩ λb hb=>hb)
theorem Own.Db(o:Own h0 h L)(i:Nat)(hi:L[i]? =some (mX Q m f))(hk:K (if ok then .tuple #[(f k).getD z,.bool (f k).isSome]else(f k).getD z)):de Q.kd z ok h (.map (some m)) (Q.ke k) K:=by
 obtain⟨es,c,hm,him⟩:=o.get i hi;exact KM.td hm him hk
theorem Own.Zb(o:Own h0 h L)(i:Nat)(hi:L[i]? =some (mX Q m f))
  (hK:∀h' s,Own h0 h' (L.set i (mX Q m (KM.cu f k ((f k).getD z))))->
   (∀(v:Value)(K':KT),(∀h'',Own h0 h'' (L.set i (mX Q m (KM.cu f k v)))->K' undef h'')->jF (.map (some m)) (.int .i64 s) v h' K')->
   KH (.tuple #[(f k).getD z,.int .i64 s]) h'):j8 Q.kd z (.map (some m)) (Q.ke k) h KH:=by
 obtain⟨es,c,hm,him⟩:=o.get i hi;have hlt:=dN hm;have hF:∀b,(mX Q m f).F b->((mX Q m f).F b\/h.size<=b):=λb hb=>.inl hb;refine KM.vM hm him λes' c' s a hst=> ?_;have o1:Own h0 (bn h m (.map es' c')) (L.set i (mX Q m (KM.cu f k ((f k).getD z)))):=
  o.set i hi (bB.bn _ _ rfl) ⟨es',c',gN hlt,a⟩ λb hb=>⟨.inl hb,by rw[gx];exact(show b=m from hb)▸hlt⟩
 refine hK _ s o1 λv K' g=> ?_;have hm':(bn h m (.map es' c'))[m]? =some (.map es' c'):=gN hlt;have hlt':=dN hm';refine KM.vN hm' a hst λd e=>g _ ?_;have o2:=o1.set i (kF hi) (r':=mX Q m (KM.cu f k v)) (bB.bn _ (.map d c') rfl) ⟨d,c',gN hlt',?_⟩ λb hb=>⟨.inl hb,by rw[gx];exact(show b=m from hb)▸hlt'⟩
 ·rw[List.set_set]at o2;exact o2
 ·rw[KM.zb]at e;exact e
end
section
variable{h0 h:aa}{L:List aM}{m:Nat}{f:Int->Option Value}{KH:KT}{k:Int}{z v:Value}
theorem Own.zg{f':Int->Option Value}(o:Own h0 h L)(i:Nat)(hi:L[i]? =some (dz m f))(hf:∀x,f' x=cu f k v x)(hK:∀h',Own h0 h' (L.set i (dz m f'))->KH undef h'):
  j8 (.int .i64) z (.map (some m)) (I k) h λt h1=>aX t 1 λs=>jF (.map (some m)) s v h1 KH:=by
 obtain⟨es,c,hm,him⟩:=o.get i hi;have hlt:=dN hm;refine vM hm him λes' c' s a hst=> ?_;rw[qX];show jF (.map (some m)) (.int .i64 s) v (Mh.bn h m (.map es' c')) KH;have o1:Own h0 (Mh.bn h m (.map es' c')) (L.set i (dz m (cu f k ((f k).getD z)))):=
  o.set i hi (bB.bn _ _ rfl) ⟨es',c',gN hlt,a⟩ λb hb=>⟨.inl hb,by rw[gx];exact(show b=m from hb)▸hlt⟩
 have hm':(Mh.bn h m (.map es' c'))[m]? =some (.map es' c'):=gN hlt;have hlt':=dN hm';refine vN hm' a hst λd e=>hK _ ?_;have o2:=o1.set i (kF hi) (r':=dz m f') (bB.bn _ (.map d c') rfl) ⟨d,c',gN hlt',e.congr λx=> ?_⟩ λb hb=>⟨.inl hb,by rw[gx];exact(show b=m from hb)▸hlt'⟩
 ·rw[List.set_set]at o2;exact o2
 ·rw[hf];unfold cu;split<;>rfl
end
abbrev rj:=Int×Int×Int
def zh(k:rj):Value:=.agg #[.int .i64 k.1,.int .i64 k.2.1,.int .i64 k.2.2]
theorem JV(k:rj):∀(t:List (KM.dr rj))(j:Nat),lW k (t.map (KM.cr zh)) j=some (KM.fi k t j)
 | [],j=>rfl
 |x::t,j=>by
  have :qJ (KM.cr zh x).key=some x.1:=rfl;simp only[List.map_cons,lW,this,KM.fi];by_cases e:k=x.1
  ·rw[if_pos e,if_pos e.symm];rfl
  ·rw[if_neg e,if_neg (λh=>e h.symm)];exact JV k t (j+1)
def Q3(n:Nat)(e:TypeId):KM.KE rj where
 ke:=zh
 kd:=.array n e
 inj:=λa b h=>by
  obtain⟨a1,a2,a3⟩:=a;obtain⟨b1,b2,b3⟩:=b;simp[zh]at h;obtain⟨rfl,rfl,rfl⟩:=h;rfl
 find:=λk t=>JV k t 0
open Go
def js(l:List aM):aM:=⟨λb=>∃r∈l,r.F b,λh=>(∀r∈l,r.Q h)/\∀{i j:Nat}{r s:aM},l[i]? =some r->l[j]? =some s->i≠j->∀b,r.F b->¬s.F b,
 λhs hq=>⟨λr hr=>r.st (λb hb=>hs b ⟨r,hr,hb⟩) (hq.1 r hr),hq.2⟩⟩
section
variable{h0 h h':aa}{L l:List aM}{i j:Nat}{r:aM}
theorem Own.out(o:Own h0 h L)(i:Nat)(hi:L[i]? =some (js l)):Own h0 h (l++L.set i gO):=by
 have hlt:i<L.length:=(List.getElem?_eq_some_iff.1 hi).1;have key:∀{j s},(l++L.set i gO)[j]? =some s->(j<l.length/\l[j]? =some s)\/(l.length<=j/\((j-l.length=i/\s=gO)\/(j-l.length≠i/\L[j-l.length]? =some s))):=by
  intro j s hs;by_cases h1:j<l.length
  ·rw[List.getElem?_append_left h1]at hs;exact .inl ⟨h1,hs⟩
  ·rw[List.getElem?_append_right (by omega)]at hs;refine .inr ⟨by omega,?_⟩;by_cases e:j-l.length=i
   ·rw[e,List.getElem?_set_self hlt]at hs;exact .inl ⟨e,(Option.some.inj hs).symm⟩
   ·rw[List.getElem?_set_ne (λe'=>e e'.symm)]at hs;exact .inr ⟨e,hs⟩
 have q:=o.q hi;refine⟨o.ext,λ{k s} hs=> ?_,λ{a c s t} hs ht hne b hb hb'=> ?_⟩
 ·rcases key hs with ⟨_,hs⟩|⟨_,⟨_,rfl⟩|⟨_,hs⟩⟩
  ·have hm:=List.mem_of_getElem? hs;exact⟨q.1.1 s hm,λb hb=>q.2 b ⟨s,hm,hb⟩⟩
  ·exact⟨trivial,λb hb=>hb.elim⟩
  ·exact o.q hs
 ·rcases key hs with ⟨h1,hs⟩|⟨h1,⟨_,rfl⟩|⟨e1,hs⟩⟩<;>rcases key ht with ⟨h2,ht⟩|⟨h2,⟨_,rfl⟩|⟨e2,ht⟩⟩
  ·exact q.1.2 hs ht hne b hb hb'
  ·exact hb'
  ·exact o.ap hi ht (λe=>e2 e.symm) b ⟨s,List.mem_of_getElem? hs,hb⟩ hb'
  ·exact hb
  ·exact hb
  ·exact hb
  ·exact o.ap hi hs (λe=>e1 e.symm) b ⟨t,List.mem_of_getElem? ht,hb'⟩ hb
  ·exact hb'
  ·exact o.ap hs ht (by omega) b hb hb'
theorem Own.back(o:Own h0 h (l++L))(i:Nat)(hi:L[i]? =some gO):Own h0 h (L.set i (js l)):=by
 have hlt:i<L.length:=(List.getElem?_eq_some_iff.1 hi).1;have kl:∀{j s},l[j]? =some s->(l++L)[j]? =some s:=λ{j s} hj=>by
  rw[List.getElem?_append_left (List.getElem?_eq_some_iff.1 hj).1];exact hj
 have d:∀{j s},L[j]? =some s->(l++L)[l.length+j]? =some s:=λ{j s} hj=>by
  rw[List.getElem?_append_right (by omega),show l.length+j-l.length=j by omega];exact hj
 have key:∀{j s},(L.set i (js l))[j]? =some s->(j=i/\s=js l)\/(j≠i/\L[j]? =some s):=by
  intro j s hs;by_cases e:j=i
  ·subst e;rw[List.getElem?_set_self hlt]at hs;exact .inl ⟨rfl,(Option.some.inj hs).symm⟩
  ·rw[List.getElem?_set_ne (λe'=>e e'.symm)]at hs;exact .inr ⟨e,hs⟩
 refine⟨o.ext,λ{k s} hs=> ?_,λ{a c s t} hs ht hne b hb hb'=> ?_⟩
 ·rcases key hs with ⟨_,rfl⟩|⟨_,hs⟩
  ·refine⟨⟨λr hr=> ?_,λhi hj hne=>o.ap (kl hi) (kl hj) hne⟩,λb⟨r,hr,hb⟩=> ?_⟩
   ·obtain⟨k,hk⟩:=List.getElem?_of_mem hr;exact(o.q (kl hk)).1
   ·obtain⟨k,hk⟩:=List.getElem?_of_mem hr;exact(o.q (kl hk)).2 b hb
  ·exact o.q (d hs)
 ·rcases key hs with ⟨e1,rfl⟩|⟨e1,hs⟩<;>rcases key ht with ⟨e2,rfl⟩|⟨e2,ht⟩
  ·exact hne (e1.trans e2.symm)
  ·obtain⟨r,hr,hb⟩:=hb;obtain⟨k,hk⟩:=List.getElem?_of_mem hr;have :=(List.getElem?_eq_some_iff.1 hk).1;exact o.ap (kl hk) (d ht) (by omega) b hb hb'
  ·obtain⟨r,hr,hb'⟩:=hb';obtain⟨k,hk⟩:=List.getElem?_of_mem hr;have :=(List.getElem?_eq_some_iff.1 hk).1;exact o.ap (kl hk) (d hs) (by omega) b hb' hb
  ·exact o.ap (d hs) (d ht) (by omega) b hb hb'
theorem Own.sep(o:Own h0 h (l++L)):Own h0 h (js l::L):=by
 have o1:Own h0 h ((l++L)++ [gO]):=Own.mT (o.cons (r:=gO) (.refl _ _) trivial λb hb=>hb.elim);have o2:Own h0 h (l++(L++ [gO])):=by rwa[<-List.append_assoc]
 have a:=o2.back L.length (by rw[List.getElem?_append_right (Nat.le_refl _),Nat.sub_self];rfl);rw[List.set_append_right _ _ (Nat.le_refl _),Nat.sub_self]at a;exact Own.comm a
end
def iK(b:UInt8):List Value:=[.int .u8 b.toNat]
theorem JW(x:UInt8):∀u∈iK x,plainCell u=true:=by intro u hu;simp[iK]at hu;subst hu;rfl
open Go
section
variable{h0 h:aa}{L X Y Z l:List aM}{r:aM}{j p:Nat}
theorem Own.Zc(o:Own h0 h (r::L))(hj:L[j]? =some (js l)):Own h0 h (L.set j (js (l++ [r]))):=by
 have hlt:j<L.length:=(List.getElem?_eq_some_iff.1 hj).1;have o1:Own h0 h (l++(r::L.set j gO)):=o.out (j+1) hj;have e:l++(r::L.set j gO)=(l++ [r])++L.set j gO:=by simp
 rw[e]at o1;have o2:=o1.back j (List.getElem?_set_self hlt);rwa[List.set_set]at o2
end
open Go
variable{α:Type}{enc:α->List Value}{n m p v:Nat}{T:TypeId}{h0 h:aa}{L:List aM}
def pX{β:Type}(f:Nat->β)(p:Nat)(x:β):Nat->β:=λv=>if v=p then x else f v
theorem JX{β:Type}{f:Nat->β}{x:β}:pX f p x p=x:=if_pos rfl
theorem JY{β:Type}{f:Nat->β}{x:β}(h:v≠p):pX f p x v=f v:=if_neg h
def dV(enc:α->List Value)(n:Nat)(T:TypeId)(kv:Nat->Value)(ks:Nat->List α)(m:Nat):List aM:=(List.range m).map λv=>aA enc n T (kv v) (ks v)
theorem th{kv:Nat->Value}{ks:Nat->List α}(hv:v<m):(dV enc n T kv ks m)[v]? =some (aA enc n T (kv v) (ks v)):=by simp[dV,hv]
theorem Zd{kv:Nat->Value}{ks:Nat->List α}{w:Value}{ys:List α}:(dV enc n T kv ks m).set p (aA enc n T w ys)=dV enc n T (pX kv p w) (pX ks p ys) m:=by
 apply List.ext_getElem?;intro i;by_cases hi:i<m
 ·by_cases e:i=p
  ·subst e;rw[List.getElem?_set_self (by simp[dV,hi]),th hi,JX,JX]
  ·rw[List.getElem?_set_ne (λh=>e h.symm),th hi,th hi,JY e,JY e]
 ·rw[List.getElem?_eq_none (by simp[dV];omega),List.getElem?_eq_none (by simp[dV];omega)]
theorem Own.Ze(o:Own h0 h L):Own h0 h (dV enc n T (λ_=>.slice none 0 0) (λ_=>([]:List α)) m++L):=by
 unfold dV;generalize List.range m=r
 induction r with
 |nil=>exact o
 |cons a r ih=>exact ih.en
theorem Own.Dc{w:Value}{xs:List α}(o:Own h0 h L)(hm:aA enc n T w xs∈L):Vw enc n h w xs:=by
 obtain⟨i,hi⟩:=List.getElem?_of_mem hm;exact o.vw i hi
open Go
def vR(cs:List Value):List (Nat×Nat×Value)->List Value
 | []=>cs
 |(off,_,v)::r=>vR (cs.set off v) r
def vS(n:Nat):List (Nat×Nat×Value)->Bool
 | []=>true
 |(off,size,_)::r=>Nat.beq size 1&&(Nat.blt off n&&vS n r)
theorem Zf{cs:List Value}{off:Nat}{v:Value}(h:off<cs.length)(hv:v.cells= #[v]):cs.take off++v.cells.toList++cs.drop (off+v.cells.size)=cs.set off v:=by
 rw[hv,List.set_eq_take_append_cons_drop,if_pos h];simp
theorem JZ:∀{parts:List (Nat×Nat×Value)}{cs:List Value},(∀p∈parts,p.2.2.cells= #[p.2.2])->vS cs.length parts=true->kW cs.length parts/\fC cs parts=vR cs parts
 | [],_,_,_=>⟨trivial,rfl⟩
 |(off,size,v)::r,cs,h1,h2=>by
  simp only[vS,Bool.and_eq_true]at h2;have hs:size=1:=Nat.eq_of_beq_eq_true h2.1;have ho:off<cs.length:=Nat.le_of_ble_eq_true h2.2.1;have hv:=h1 (off,size,v) (List.mem_cons_self ..);have ih:=@JZ r (cs.set off v) (λp hp=>h1 p (List.mem_cons_of_mem _ hp)) (by rw[List.length_set];exact h2.2.2);rw[List.length_set]at ih;refine⟨⟨by rw[show v.cells= #[v]from hv,hs];rfl,by omega,ih.1⟩,?_⟩;simp only[fC,vR];rw[Zf ho hv];exact ih.2
theorem cG{zero cs':List Value}{parts:List (Nat×Nat×Value)}{K:Value->Prop}(h1:∀p∈parts,p.2.2.cells= #[p.2.2])(h2:vS zero.length parts=true)(hcs:vR zero parts=cs')(hk:K (.agg cs'.toArray)):aP zero parts K:=by
 have :=JZ h1 h2;refine⟨this.1,?_⟩;rw[this.2,hcs];exact hk
open Go
structure A where
 f:Nat
 t:Nat
 w:Nat
 deriving DecidableEq
structure G where
 n:Nat
 X:List Int
 Y:List Int
 ag:List A
def dS(a:A):List Value:=[I a.f,I a.t,I a.w]
theorem mj(a:A):(dS a).length=3:=rfl
theorem fS(a:A):∀u∈dS a,plainCell u=true:=by
 intro u hu;simp[dS]at hu;rcases hu with rfl|rfl|rfl<;>rfl
abbrev vA(a:A):Value:=.agg #[I a.f,I a.t,I a.w]
structure G.Right(g:G):Prop where
 pos:1<=g.n
 most:g.n<=16777216
 x:g.X.length=g.n
 y:g.Y.length=g.n
 xr:∀c∈g.X,-2147483648<=c/\c<=2147483647
 yr:∀c∈g.Y,-2147483648<=c/\c<=2147483647
 many:g.ag.length<=67108864
 ends:∀a∈g.ag,a.f<g.n/\a.t<g.n/\a.w<=2147483647
def nO(h:aa)(vx vy va:Value)(g:G):Prop:=Vw aG 1 h vx g.X/\Vw aG 1 h vy g.Y/\Vw dS 3 h va g.ag
def mY(h:aa)(v:Value)(g:G):Prop:=∃vx vy va,v=.agg #[I g.n,vx,vy,va]/\nO h vx vy va g
theorem nO.more{h h':aa}{vx vy va:Value}{g:G}(H:nO h vx vy va g)(x:Ext h h'):nO h' vx vy va g:=⟨H.1.more x,H.2.1.more x,H.2.2.more x⟩
theorem mY.more{h h':aa}{v:Value}{g:G}(H:mY h v g)(x:Ext h h'):mY h' v g:=by
 obtain⟨vx,vy,va,e,H⟩:=H;exact⟨vx,vy,va,e,H.more x⟩
def oM(x:Int):List Value:=[.int .u8 x]
theorem Zg(x:Int):(oM x).length=1:=rfl
def jL(v:Value):List Value:=[v]
theorem J1(v:Value):(jL v).length=1:=rfl
def fT(p:A->Bool):List A->Nat->List Nat
 | [],_=>[]
 |a::l,i=>if p a then i::fT p l (i+1)else fT p l (i+1)
def G.out(g:G)(v:Nat):List Nat:=fT (λa=>a.f==v) g.ag 0
def G.in(g:G)(v:Nat):List Nat:=fT (λa=>a.t==v) g.ag 0
def aV(x:Nat):List Value:=[I x]
theorem rm(x:Nat):(aV x).length=1:=rfl
theorem nP(x:Nat):∀u∈aV x,plainCell u=true:=by intro u hu;simp[aV]at hu;subst hu;rfl
theorem Zh(x:Int):0<=IntKind.u8.wrap x/\IntKind.u8.wrap x<256:=by
 simp only[IntKind.wrap,IntKind.bits,IntKind.signed,Bool.false_and,Bool.false_eq_true,if_false];omega
open Go
def Arcs.off(p:A->Nat)(l:List A)(v:Nat):Nat:=l.countP λa=>decide (p a<v)
def Arcs.cnt(p:A->Nat)(l:List A)(v:Nat):Nat:=l.countP λa=>p a==v
section
variable{p:A->Nat}{l:List A}{v n:Nat}
open Arcs
theorem vT:off p l (v+1)=off p l v+cnt p l v:=by
 unfold off cnt
 induction l with
 |nil=>rfl
 | cons a l ih=>
  simp only[List.countP_cons,ih];by_cases h1:p a<v
  ·simp[h1,show p a<v+1 by omega,show ¬p a=v by omega];omega
  ·by_cases h2:p a=v
   ·simp[h2];omega
   ·simp[h1,h2,show ¬p a<v+1 by omega]
theorem Zi:off p l 0=0:=by simp[off]
theorem Zj:off p l v<=l.length:=List.countP_le_length
theorem J3{u:Nat}(h:u<=v):off p l u<=off p l v:=by
 induction h with
 |refl=>exact Nat.le_refl _
 |step h ih=>rw[Nat.succ_eq_add_one,vT];omega
theorem Zk:cnt p l v<=l.length:=List.countP_le_length
theorem zi:off p l v+cnt p l v<=l.length:=by rw[<-vT];exact Zj
theorem vU(q:A->Bool):∀(l:List A)(i:Nat),(fT q l i).length=l.countP q
 | [],_=>rfl
 |a::l,i=>by
  simp only[fT,List.countP_cons];split<;>simp[vU q l, *]
theorem J4(q:A->Bool):∀(l m:List A)(i:Nat),fT q (l++m) i=fT q l i++fT q m (i+l.length)
 | [],m,i=>by simp[fT]
 |a::l,m,i=>by
  simp only[fT,List.cons_append,J4 q l m,List.length_cons];have e:i+1+l.length=i+(l.length+1):=by omega
  rw[e];split<;>simp
theorem mo{q:A->Bool}:∀{l:List A}{i x:Nat},x∈fT q l i↔i<=x/\∃h:x-i<l.length,q (l[x-i])=true
 | [],i,x=>by simp[fT]
 | a::l,i,x=>by
  have ih:=@mo q l (i+1) x;have key:x∈fT q (a::l) i↔(x=i/\q a=true)\/x∈fT q l (i+1):=by
   simp only[fT];split
   ·simp[*]
   ·simp[*]
  rw[key,ih];constructor
  ·rintro(⟨rfl,hq⟩|⟨h1,h2,h3⟩)
   ·exact⟨Nat.le_refl _,by simp,by simpa using hq⟩
   ·refine⟨by omega,by simp;omega,?_⟩;have e:x-i=(x-(i+1))+1:=by omega
    simp only[e,List.getElem_cons_succ];exact h3
  ·rintro⟨h1,h2,h3⟩;by_cases e:x=i
   ·subst e;left;exact⟨rfl,by simpa using h3⟩
   ·right;have e:x-i=(x-(i+1))+1:=by omega
    simp only[e,List.getElem_cons_succ]at h3;exact⟨by omega,by simp at h2;omega,h3⟩
def fill(p:A->Nat)(l:List A)(i v:Nat):List Nat:=fT (λa=>p a==v) (l.take i) 0
theorem tj{i:Nat}:(fill p l i v).length=cnt p (l.take i) v:=vU _ _ _
theorem J5{i:Nat}:cnt p (l.take i) v<=cnt p l v:=(List.take_sublist i l).countP_le
theorem J6{i:Nat}:(fill p l i v).length<=cnt p l v:=by rw[tj];exact J5
theorem zj{i:Nat}(hi:i<l.length):fill p l (i+1) v=fill p l i v++(if p l[i]=v then[i]else[]):=by
 unfold fill;rw[List.take_succ_eq_append_getElem hi,J4];congr 1;have :(l.take i).length=i:=by simp;omega
 rw[this,Nat.zero_add];simp only[fT];by_cases h:p l[i]=v
 ·simp[h]
 ·simp[h]
theorem J7{i:Nat}(hi:i<l.length):cnt p (l.take (i+1)) v=cnt p (l.take i) v+(if p l[i]=v then 1 else 0):=by
 rw[<-tj,zj hi,List.length_append,tj];split<;>simp
theorem J8{i:Nat}(hi:i<l.length):cnt p (l.take i) (p l[i])<cnt p l (p l[i]):=by
 have h1:=J7 (p:=p) (v:=p l[i]) hi;have h2:cnt p (l.take (i+1)) (p l[i])<=cnt p l (p l[i]):=J5;simp at h1;omega
theorem Dd{α:Type}{f:Nat->α}{k:Nat}{x:α}:((List.range n).map f).set k x=(List.range n).map λv=>if v=k then x else f v:=by
 apply List.ext_getElem
 ·simp
 ·intro j h1 h2;simp only[List.getElem_set,List.getElem_map,List.getElem_range];split<;>rename_i h
  ·subst h;simp
  ·simp[show ¬j=k from λe=>h e.symm]
end
end Go.Mh
