/- Texts of the proofs of seat YthglofkkjoiepaaGreatDoor, joined: BoB, RvA, BoC, BoD, SkA, SkB, SkC, AnA, AnB, AnC, AnD, AnE, AnF, AnG. They have no conditions of their own. -/
import Derived.Test.YthglofkkjoiepaaGreatDoorTc
import Derived.Test.YthglofkkjoiepaaGreatDoorMd
import Derived.Test.YthglofkkjoiepaaGreatDoorMb
import Derived.Test.YthglofkkjoiepaaGreatDoorTa
import Derived.Test.YthglofkkjoiepaaGreatDoorMc
import Derived.Test.YthglofkkjoiepaaGreatDoorTb
import Derived.Tactics
import Derived.Tactics2
set_option linter.unusedVariables false
set_option linter.unusedSimpArgs false
set_option linter.unusedSectionVars false

namespace Go.Proofs.YthglofkkjoiepaaGreatDoor
open Go Go.Mh
section
variable{h0 h:aa}{L M:List aM}{K:KT}{Q:Qs}{rs r:Nat}{va vp ve:Value}{b hp lm am cm:Bool->Nat}{fo fh:Bool->Value}{F:Bool->Nat->Prop}{S:BW}{B:Bool->Int}
def mI(b:Bool->Nat)(S:BW):Value:=match S.next with
 |none=>.pointer none
 |some x=>ptr (b x)
theorem Wz(H:BI Q S B)(hB:∀x,B x<=aI)(o:Own h0 h (dD Q rs r va vp b hp lm am cm fo fh F S ve M))(hK:K (mI b S) h):ah Tryz.prog wF [ptr rs] h K:=by
 have c:aI=72057594037927936:=rfl;refine aK (acI _ ?_);unfold PB AV;simp only[bz,aQ];have dG:∀x p,p∈(S.sd x).hp-> - (4*aI)<=p.2/\p.2<=4*aI:=λx p hp=>by
  obtain⟨u,_,_,d,h1,h2⟩:=(H.si x).cr p hp;obtain⟨u',e,_,ho,d0,f,_⟩:=(H.si x).lab _ _ h1;obtain rfl:=Int.ofNat.inj e;have hp:=Qs.xV ho;have hb:=hB x;have hq:Q.cw x u=Q.p u\/Q.cw x u= - Q.p u:=by cases x;exact .inl rfl;exact .inr rfl
  omega
 have hdist:=H.c3;have g: -aI<=S.aH:=by
  rcases H.c2 with h|⟨u,d0,d1,_,h2,h3,h4⟩
  ·omega
  ·obtain⟨_,_,_,_,a1,_⟩:=(H.si false).lab _ _ h2;obtain⟨_,_,_,_,a2,_⟩:=(H.si true).lab _ _ h3;omega
 rw[jq];refine⟨by decide,o.load 0 rfl rfl ?_⟩;simp only[bz,aQ];refine o.load 1 rfl rfl (GV o 2 rfl (λhl=> ?_) λp hl=> ?_)
 ·have hn:mI b S=.pointer none:=by unfold mI BW.next;rw[hl]
  rw[hn]at hK;simp only[b9,bZ];rw[jq];refine⟨by decide,o.load 0 rfl rfl ?_⟩;simp only[bz,aQ];refine o.load 6 rfl rfl (GV o 7 rfl (λhl=> ?_) λp hl=> ?_)
  ·simp only[b9,bZ];rw[bH,Bool.not_false,bq];exact hK
  ·simp only[b9,bZ];rw[bH,Bool.not_false,bq];exact hK
 ·simp only[b9,bZ];rw[jq];refine⟨by decide,o.load 0 rfl rfl ?_⟩;simp only[bz,aQ];refine o.load 6 rfl rfl (GV o 7 rfl (λa=> ?_) λq a=> ?_)
  ·have hn:mI b S=.pointer none:=by unfold mI BW.next;rw[hl,a]
   rw[hn]at hK;simp only[b9,bZ];rw[bH,Bool.not_true,aL,bH,Bool.not_false,bq];exact hK
  ·have b1:=dG false p (iw hl).1;have b2:=dG true q (iw a).1;have hn:mI b S=if 2*S.aH<=p.2+q.2 then .pointer none else if p.2<=q.2 then ptr (b false)else ptr (b true):=by
    unfold mI BW.next;rw[hl,a];dsimp only;by_cases c1:2*S.aH<=p.2+q.2
    ·simp only[if_pos c1]
    ·by_cases c2:p.2<=q.2
     ·simp only[if_neg c1,if_pos c2]
     ·simp only[if_neg c1,if_neg c2]
   rw[hn]at hK;simp only[b9,bZ];rw[bH,Bool.not_true,aL,bH,Bool.not_true,aL,bt,bG (by omega) (by omega)];refine o.load 0 rfl rfl ?_;rw[jr,bG (by omega) (by omega),c8,bg];refine⟨λc1=>by rw[if_pos c1]at hK;exact hK,λc1=> ?_⟩;rw[if_neg c1]at hK;rw[mS,bg];refine⟨λc2=> ?_,λc2=> ?_⟩
   ·rw[if_pos c2]at hK;rw[jq];exact⟨by decide,o.load 0 rfl rfl hK⟩
   ·rw[if_neg c2]at hK;rw[jq];exact⟨by decide,o.load 0 rfl rfl hK⟩
theorem ajo{st:List dh}(hQ:Q.Ok)(R:dO Q S st)(hn:S.next=some false)(H:bJ h0 r Q.g)(hN:rX (fo false) Q.g r (gz Q.g false))(hE:jd (fh false) (cS false))
  (o:Own h0 h (dD Q rs r va vp b hp lm am cm fo fh F S ve M)) (Y:Vw aG 1 h0 vp Q.pi) (Ha:Vw B6 1 h0 va Q.allow) (az:S.ev.length<=2^32)
  (hK:∀F' a h',Own h0 h' (dD Q rs r va vp b hp lm am cm fo fh F' (Q.step false S) a M)->K (.tuple #[]) h'):
  ah Tryz.prog zU [ptr rs,ptr (b false)] h K:=by
 have aB:=hQ.r.most;have aC:=hQ.r.many;have aE:aI=72057594037927936:=rfl;obtain⟨v,k,d,hle,aa,hno,E,B,P⟩:=R.lu hQ hn;have hstep:Q.step false S=Q.scan false v (Q.pop false ((v:Int),k) S) (gz Q.g false v):=by
  unfold Qs.step;rw[hle];dsimp only;rw[Int.toNat_natCast]
 rw[hstep]at hK;refine aK (PC _ _ ?_);unfold Gf;simp only[bz,aQ];refine o.load 1 rfl rfl (xC o 2 rfl (λe=>by rw[hle]at e;cases e) λp hp2 G h1 o1=> ?_);rw[hle]at hp2;obtain rfl:=Option.some.inj hp2;simp only[b9,bZ,k8];refine o1.load 1 rfl rfl (o1.look 5 rfl ?_);rw[if_neg (by decide),ur hno,Option.getD_none,bt,show IntKind.i64.wrap (0+1)=1 from rfl];refine o1.kE (f':=jy ((S.sd false).ord++ [v])) 5 rfl GW λh2 o2=> ?_;refine o2.load 0 rfl rfl (o2.load 1 rfl rfl (o2.load 1 rfl rfl (o2.look 3 rfl ?_)));rw[if_neg (by decide),show(cE (S.sd false).lab (v:Int)).getD (.int .i64 0)=I d by unfold cE;rw[E];rfl];refine cG (cs':=dA ⟨0,sI false,v,d⟩) (λp hp=>by simp at hp;rcases hp with rfl|rfl|rfl|rfl<;>rfl) rfl rfl ?_;refine o2.fF 11 (jU ⟨false,v,d⟩) rfl rfl (bW rfl) n7 uB rfl (by decide) (by omega) λl h3 A=> ?_;have f:=A.vw 11 rfl;refine A.bf 0 rfl rfl rfl f.one f.plain λh4 J=> ?_;have C:Q.pop false ((v:Int),k) S=⟨eH S.sd false ((S.sd false).pop v k),S.ev++ [jU ⟨false,v,d⟩],S.aH,S.meet⟩:=by
  unfold Qs.pop;rw[E];simp only[Int.toNat_natCast,Option.getD_some]
 have m:Own h0 h4 (dD Q rs r va vp b hp lm am cm fo fh (λy=>if y=false then G else F y) (Q.pop false ((v:Int),k) S) l M):=by
  rw[C];simp only[dD,kO,show eH S.sd false ((S.sd false).pop v k) true=S.sd true from n9 (x:=false)];exact J
 have hel:(Q.pop false ((v:Int),k) S).ev.length<=2^32+1:=by rw[C];simp;omega
 clear o1 o2 A J f C;generalize Q.pop false ((v:Int),k) S=S1 at P hK m hel;refine m.load 1 rfl rfl (hN h0 h4 _ _ v aa (H.more m.ext) m λvl h6 D=> ?_);refine(D.vw 0 rfl).len ?_;have N:∀i∈gz Q.g false v,i<Q.g.ag.length/\c7 false (aD Q.g.ag i)=v:=λi hi=>uC.mem false v i hi;have hil:=@UR Q.g false v;have O:Own h0 h6 (dD Q rs r va vp b hp lm am cm fo fh (λy=>if y=false then G else F y) S1 l (aA aV 1 au vl (gz Q.g false v)::M)):=D.front 13 [1,2,3,4,5,6,7,8,9,10,11,12,0] (by decide) (by decide);clear D m;generalize gz Q.g false v=ids at *;refine cg ids.length (λq y h'=>y.1=I q/\∃F' a,Own h0 h' (dD Q rs r va vp b hp lm am cm fo fh F' (Q.scan false v S1 (ids.take q)) a (aA aV 1 au vl ids::M))) ⟨rfl,_,_,O⟩ ?_;clear O;rintro q ⟨y,⟨⟩⟩ h7 Z hq ⟨hy,F',a,o⟩ hZ;dsimp only at hy hZ ⊢;subst hy;unfold Ge;rw[bu,bg];refine⟨λhlt=> ?_,λhge=> ?_⟩
 ·have hlt:q<ids.length:=by omega
  have P1:=P.scan hQ (ids:=ids.take q) λi hi=>N i (List.mem_of_mem_take hi);have T:=Vd (Q:=Q) (x:=false) (v:=v) (S1:=S1) hlt;have U:=HO (Q:=Q) (x:=false) (v:=v) (ids:=ids.take q) (S1:=S1);rw[List.length_take]at U;have s:∀F' a h',Own h0 h' (dD Q rs r va vp b hp lm am cm fo fh F' (Q.scan false v S1 (ids.take (q+1))) a (aA aV 1 au vl ids::M))->uh Tryz.prog (I q) (λa0 hz=>Z (a0,()) hz) h':=λF' a h' o'=>by
   unfold uh;rw[bt,wI q (by omega)];exact hZ (_,()) h' hlt ⟨rfl,F',a,o'⟩
  obtain⟨hi,ht⟩:=N ids[q] (List.getElem_mem hlt);rw[T]at s;have hread:∀{K:Value->Prop},K (I ids[q])->aW 1 vl (I q) (λt=>af h7 t K):=λhk=>(o.vw 12 rfl).dH (e:=λx:Nat=>I x) (λ_=>rfl) hlt hk;generalize ids[q]=i at hi ht s T hread;generalize Q.scan false v S1 (ids.take q)=c at P1 s o U;refine hread ?_;simp only[bz,aQ];have V:Q.iQ i=true->uj Tryz.prog (ptr rs) (ptr (b false)) (I i) (I v) (I q) (λa0 hz=>Z (a0,()) hz) h7:=λha=>by
   unfold uj;simp only[bz,aQ];refine o.load 0 rfl rfl (o.load 1 rfl rfl ?_);refine cG (cs':=dA ⟨1,sI false,i,0⟩) (λp hp=>by simp at hp;rcases hp with rfl|rfl|rfl<;>rfl) rfl rfl ?_;refine o.fF 11 (hG false i) rfl rfl (bW rfl) n7 uB rfl (by decide) (by omega) λl h8 X=> ?_;have f:=X.vw 11 rfl;refine X.bf 0 rfl rfl rfl f.one f.plain λh9 u=> ?_;have u:Own h0 h9 (dD Q rs r va vp b hp lm am cm fo fh F' {c with ev:=c.ev++ [hG false i]} l (aA aV 1 au vl ids::M)):=u;refine u.load 0 rfl rfl (nY (H.more u.ext) hi λh10 ai=> ?_);have aj:=u.more ai;have ea:Q.g.ag[i]=aD Q.g.ag i:=by simp[aD,hi]
   rw[ea];simp only[b9,bZ];refine aj.box λa9 h11 ak=>ak.st 0 rfl rfl rfl rfl rfl (fS _) λh12 j=> ?_;have hw:((aD Q.g.ag i).w:Int)<=2147483647:=by
    have :=(hQ.r.ends _ (gD hi)).2.2;omega
   have hlv:(cE (c.sd false).lab (v:Int)).getD (.int .i64 0)=I d:=by unfold cE;rw[P1.lab];rfl
   have aF:=P1.bd;have aJ:=P1.aI false;have hW:(W:Int)=2147483647:=rfl;have aM:=P1.d0;refine j.load 2 rfl rfl (j.bN (cs':=dS (aD Q.g.ag i)) 0 rfl rfl rfl (j.load 2 rfl rfl (j.look 4 rfl ?_)));rw[if_neg (by decide),hlv];refine j.load 0 rfl rfl ?_;rw[bt,bG (by omega) (by omega)];refine hE _ _ _ λaN an=> ?_;have z:=j.more an;refine⟨z.load 2 rfl rfl rfl,z.look 4 rfl (by rw[if_neg (by decide),hlv]),z.load 0 rfl rfl rfl,?_⟩;have aq:cS false (aD Q.g.ag i)<Q.g.n:=by
    have :=hQ.r.ends _ (gD hi);exact this.2.1
   refine Ww hQ (P1.bi.ev _) P1.aI z.tail Y aq (by omega) λav ax ay=> ?_;refine s av l ax ?_;have hsc:Q.gq false v c i=Q.reach {c with ev:=c.ev++ [hG false i]} false (cS false (aD Q.g.ag i)) i (d+(aD Q.g.ag i).w):=by
    unfold Qs.gq;rw[if_pos ha,P1.lab];rfl
   rw[hsc];exact ay
  have HA:=Ha.more o.ext;refine o.load 0 rfl rfl (HA.len ?_);rw[dZ,bg];refine⟨λhpos=> ?_,λhz=>V ?_⟩
  ·have hal:Q.allow.length=Q.g.ag.length:=hQ.allow.resolve_left λe=>by rw[e]at hpos;simp at hpos
   refine o.load 0 rfl rfl (HA.dH (e:=λx:Bool=>.bool x) (λ_=>rfl) (i:=i) (by omega) ?_);have hai:Q.iQ i=Q.allow[i]:=by
    unfold Qs.iQ;rw[show Q.allow.isEmpty=false by cases hq:Q.allow with|nil=>rw[hq]at hal;simp at hal;omega|cons=>rfl];simp[List.getD_eq_getElem?_getD,show i<Q.allow.length by omega]
   rw[<-hai,bH];cases ha:Q.iQ i with
   |true=>rw[Bool.not_true,aL];exact V ha
   |false=>
    rw[Bool.not_false,bq];refine s F' a h7 ?_;rw[show Q.gq false v c i=c by unfold Qs.gq;rw[ha];rfl];exact o
  ·have :Q.allow=[]:=List.length_eq_zero_iff.1 (by omega);unfold Qs.iQ;rw[this];rfl
 ·have :q=ids.length:=by omega
  subst this;rw[List.take_length]at o;exact hK F' a h7 (o.front 13 [0,1,2,3,4,5,6,7,8,9,10,11] (by decide) (by decide))
theorem ajp{st:List dh}(hQ:Q.Ok)(R:dO Q S st)(hn:S.next=some true)(H:bJ h0 r Q.g)(hN:rX (fo true) Q.g r (gz Q.g true))(hE:jd (fh true) (cS true))
  (o:Own h0 h (dD Q rs r va vp b hp lm am cm fo fh F S ve M)) (Y:Vw aG 1 h0 vp Q.pi) (Ha:Vw B6 1 h0 va Q.allow) (az:S.ev.length<=2^32)
  (hK:∀F' a h',Own h0 h' (dD Q rs r va vp b hp lm am cm fo fh F' (Q.step true S) a M)->K (.tuple #[]) h'):
  ah Tryz.prog zU [ptr rs,ptr (b true)] h K:=by
 have aB:=hQ.r.most;have aC:=hQ.r.many;have aE:aI=72057594037927936:=rfl;obtain⟨v,k,d,hle,aa,hno,E,B,P⟩:=R.lu hQ hn;have hstep:Q.step true S=Q.scan true v (Q.pop true ((v:Int),k) S) (gz Q.g true v):=by
  unfold Qs.step;rw[hle];dsimp only;rw[Int.toNat_natCast]
 rw[hstep]at hK;refine aK (PC _ _ ?_);unfold Gf;simp only[bz,aQ];refine o.load 6 rfl rfl (xC o 7 rfl (λe=>by rw[hle]at e;cases e) λp hp2 G h1 o1=> ?_);rw[hle]at hp2;obtain rfl:=Option.some.inj hp2;simp only[b9,bZ,k8];refine o1.load 6 rfl rfl (o1.look 10 rfl ?_);rw[if_neg (by decide),ur hno,Option.getD_none,bt,show IntKind.i64.wrap (0+1)=1 from rfl];refine o1.kE (f':=jy ((S.sd true).ord++ [v])) 10 rfl GW λh2 o2=> ?_;refine o2.load 0 rfl rfl (o2.load 6 rfl rfl (o2.load 6 rfl rfl (o2.look 8 rfl ?_)));rw[if_neg (by decide),show(cE (S.sd true).lab (v:Int)).getD (.int .i64 0)=I d by unfold cE;rw[E];rfl];refine cG (cs':=dA ⟨0,sI true,v,d⟩) (λp hp=>by simp at hp;rcases hp with rfl|rfl|rfl|rfl<;>rfl) rfl rfl ?_;refine o2.fF 11 (jU ⟨true,v,d⟩) rfl rfl (bW rfl) n7 uB rfl (by decide) (by omega) λl h3 A=> ?_;have f:=A.vw 11 rfl;refine A.bf 0 rfl rfl rfl f.one f.plain λh4 J=> ?_;have C:Q.pop true ((v:Int),k) S=⟨eH S.sd true ((S.sd true).pop v k),S.ev++ [jU ⟨true,v,d⟩],S.aH,S.meet⟩:=by
  unfold Qs.pop;rw[E];simp only[Int.toNat_natCast,Option.getD_some]
 have m:Own h0 h4 (dD Q rs r va vp b hp lm am cm fo fh (λy=>if y=true then G else F y) (Q.pop true ((v:Int),k) S) l M):=by
  rw[C];simp only[dD,kO,show eH S.sd true ((S.sd true).pop v k) false=S.sd false from n9 (x:=true)];exact J
 have hel:(Q.pop true ((v:Int),k) S).ev.length<=2^32+1:=by rw[C];simp;omega
 clear o1 o2 A J f C;generalize Q.pop true ((v:Int),k) S=S1 at P hK m hel;refine m.load 6 rfl rfl (hN h0 h4 _ _ v aa (H.more m.ext) m λvl h6 D=> ?_);refine(D.vw 0 rfl).len ?_;have N:∀i∈gz Q.g true v,i<Q.g.ag.length/\c7 true (aD Q.g.ag i)=v:=λi hi=>uC.mem true v i hi;have hil:=@UR Q.g true v;have O:Own h0 h6 (dD Q rs r va vp b hp lm am cm fo fh (λy=>if y=true then G else F y) S1 l (aA aV 1 au vl (gz Q.g true v)::M)):=D.front 13 [1,2,3,4,5,6,7,8,9,10,11,12,0] (by decide) (by decide);clear D m;generalize gz Q.g true v=ids at *;refine cg ids.length (λq y h'=>y.1=I q/\∃F' a,Own h0 h' (dD Q rs r va vp b hp lm am cm fo fh F' (Q.scan true v S1 (ids.take q)) a (aA aV 1 au vl ids::M))) ⟨rfl,_,_,O⟩ ?_;clear O;rintro q ⟨y,⟨⟩⟩ h7 Z hq ⟨hy,F',a,o⟩ hZ;dsimp only at hy hZ ⊢;subst hy;unfold Ge;rw[bu,bg];refine⟨λhlt=> ?_,λhge=> ?_⟩
 ·have hlt:q<ids.length:=by omega
  have P1:=P.scan hQ (ids:=ids.take q) λi hi=>N i (List.mem_of_mem_take hi);have T:=Vd (Q:=Q) (x:=true) (v:=v) (S1:=S1) hlt;have U:=HO (Q:=Q) (x:=true) (v:=v) (ids:=ids.take q) (S1:=S1);rw[List.length_take]at U;have s:∀F' a h',Own h0 h' (dD Q rs r va vp b hp lm am cm fo fh F' (Q.scan true v S1 (ids.take (q+1))) a (aA aV 1 au vl ids::M))->uh Tryz.prog (I q) (λa0 hz=>Z (a0,()) hz) h':=λF' a h' o'=>by
   unfold uh;rw[bt,wI q (by omega)];exact hZ (_,()) h' hlt ⟨rfl,F',a,o'⟩
  obtain⟨hi,ht⟩:=N ids[q] (List.getElem_mem hlt);rw[T]at s;have hread:∀{K:Value->Prop},K (I ids[q])->aW 1 vl (I q) (λt=>af h7 t K):=λhk=>(o.vw 12 rfl).dH (e:=λx:Nat=>I x) (λ_=>rfl) hlt hk;generalize ids[q]=i at hi ht s T hread;generalize Q.scan true v S1 (ids.take q)=c at P1 s o U;refine hread ?_;simp only[bz,aQ];have V:Q.iQ i=true->uj Tryz.prog (ptr rs) (ptr (b true)) (I i) (I v) (I q) (λa0 hz=>Z (a0,()) hz) h7:=λha=>by
   unfold uj;simp only[bz,aQ];refine o.load 0 rfl rfl (o.load 6 rfl rfl ?_);refine cG (cs':=dA ⟨1,sI true,i,0⟩) (λp hp=>by simp at hp;rcases hp with rfl|rfl|rfl<;>rfl) rfl rfl ?_;refine o.fF 11 (hG true i) rfl rfl (bW rfl) n7 uB rfl (by decide) (by omega) λl h8 X=> ?_;have f:=X.vw 11 rfl;refine X.bf 0 rfl rfl rfl f.one f.plain λh9 u=> ?_;have u:Own h0 h9 (dD Q rs r va vp b hp lm am cm fo fh F' {c with ev:=c.ev++ [hG true i]} l (aA aV 1 au vl ids::M)):=u;refine u.load 0 rfl rfl (nY (H.more u.ext) hi λh10 ai=> ?_);have aj:=u.more ai;have ea:Q.g.ag[i]=aD Q.g.ag i:=by simp[aD,hi]
   rw[ea];simp only[b9,bZ];refine aj.box λa9 h11 ak=>ak.st 0 rfl rfl rfl rfl rfl (fS _) λh12 j=> ?_;have hw:((aD Q.g.ag i).w:Int)<=2147483647:=by
    have :=(hQ.r.ends _ (gD hi)).2.2;omega
   have hlv:(cE (c.sd true).lab (v:Int)).getD (.int .i64 0)=I d:=by unfold cE;rw[P1.lab];rfl
   have aF:=P1.bd;have aJ:=P1.aI true;have hW:(W:Int)=2147483647:=rfl;have aM:=P1.d0;refine j.load 7 rfl rfl (j.bN (cs':=dS (aD Q.g.ag i)) 0 rfl rfl rfl (j.load 7 rfl rfl (j.look 9 rfl ?_)));rw[if_neg (by decide),hlv];refine j.load 0 rfl rfl ?_;rw[bt,bG (by omega) (by omega)];refine hE _ _ _ λaN an=> ?_;have z:=j.more an;refine⟨z.load 7 rfl rfl rfl,z.look 9 rfl (by rw[if_neg (by decide),hlv]),z.load 0 rfl rfl rfl,?_⟩;have aq:cS true (aD Q.g.ag i)<Q.g.n:=by
    have :=hQ.r.ends _ (gD hi);exact this.1
   refine Wx hQ (P1.bi.ev _) P1.aI z.tail Y aq (by omega) λav ax ay=> ?_;refine s av l ax ?_;have hsc:Q.gq true v c i=Q.reach {c with ev:=c.ev++ [hG true i]} true (cS true (aD Q.g.ag i)) i (d+(aD Q.g.ag i).w):=by
    unfold Qs.gq;rw[if_pos ha,P1.lab];rfl
   rw[hsc];exact ay
  have HA:=Ha.more o.ext;refine o.load 0 rfl rfl (HA.len ?_);rw[dZ,bg];refine⟨λhpos=> ?_,λhz=>V ?_⟩
  ·have hal:Q.allow.length=Q.g.ag.length:=hQ.allow.resolve_left λe=>by rw[e]at hpos;simp at hpos
   refine o.load 0 rfl rfl (HA.dH (e:=λx:Bool=>.bool x) (λ_=>rfl) (i:=i) (by omega) ?_);have hai:Q.iQ i=Q.allow[i]:=by
    unfold Qs.iQ;rw[show Q.allow.isEmpty=false by cases hq:Q.allow with|nil=>rw[hq]at hal;simp at hal;omega|cons=>rfl];simp[List.getD_eq_getElem?_getD,show i<Q.allow.length by omega]
   rw[<-hai,bH];cases ha:Q.iQ i with
   |true=>rw[Bool.not_true,aL];exact V ha
   |false=>
    rw[Bool.not_false,bq];refine s F' a h7 ?_;rw[show Q.gq true v c i=c by unfold Qs.gq;rw[ha];rfl];exact o
  ·have :Q.allow=[]:=List.length_eq_zero_iff.1 (by omega);unfold Qs.iQ;rw[this];rfl
 ·have :q=ids.length:=by omega
  subst this;rw[List.take_length]at o;exact hK F' a h7 (o.front 13 [0,1,2,3,4,5,6,7,8,9,10,11] (by decide) (by decide))
end
open Go Go.Mh
section
variable{h0 h:aa}{L:List aM}{K:KT}
theorem WA{v:Value}{xs:List Int}(o:Own h0 h L)(i:Nat)(hi:L[i]? =some (aA aG 1 au v xs))(hl:xs.length<2^40)
  (hK:∀h',Own h0 h' (L.set i (aA aG 1 au v xs.reverse))->K (.tuple #[]) h'):ah Tryz.prog zV [v] h K:=by
 refine aK (acJ _ ?_);unfold PF;refine(o.vw i hi).len ?_;rw[eM,bG (by omega) (by omega)];have es:L.set i (aA aG 1 au v xs)=L:=qq hi;refine cg xs.length (λk x h'=>x.1=I k/\x.2.1=I ((xs.length:Int)-1-k)/\Own h0 h' (L.set i (aA aG 1 au v (rv xs k)))) ⟨rfl,by simp,by rw[agh,es];exact o⟩ ?_;rintro k ⟨x,y,⟨⟩⟩ h Z hk ⟨hx,hy,o⟩ hZ;dsimp only at hx hy hZ ⊢;subst hx hy;unfold PE;have hi':(L.set i (aA aG 1 au v (rv xs k)))[i]? =some (aA aG 1 au v (rv xs k)):=kF hi;simp only[bu,bg];refine⟨λhlt=> ?_,λhge=> ?_⟩
 ·have e:((xs.length:Int)-1-k)=((xs.length-1-k:Nat):Int):=by omega
  rw[e];have hj:xs.length-1-k<(rv xs k).length:=by rw[pg];omega
  have hk':k<(rv xs k).length:=by rw[pg];omega
  refine(o.vw i hi').cV hj ((o.vw i hi').cV hk' ?_);refine o.iu i hi' hk' λh1 o1=> ?_;rw[List.set_set]at o1;refine o1.iu i (kF hi) (by rw[List.length_set];exact hj) λh2 o2=> ?_;rw[List.set_set,agj (by omega)]at o2;rw[bt,wI k (by omega),eM,bG (by omega) (by omega)];exact hZ (I (k+1:Nat),I _,()) h2 (by omega) ⟨rfl,congrArg (λz:Int=>I z) (by omega),o2⟩
 ·rw[agi (by omega)]at o;exact hK h o
end
open Go Go.Mh
section
variable{h0 h:aa}{L M:List aM}{K:KT}{Q:Qs}{rs r:Nat}{va vp ve:Value}{b hp lm am cm:Bool->Nat}{fo fh:Bool->Value}{F:Bool->Nat->Prop}{S:BW}{B:Bool->Int}
def sq(Q:Qs)(x:Bool):List Nat->Value
  | []=>.tuple #[I 0,I 0,.bool false]
  |i::_=>.tuple #[I i,I (c7 x (aD Q.g.ag i)),.bool true]
theorem B8 {x:Bool} {a s2 u:Nat} {rest:List Nat} {d:Int} {bF:Int->Option Int} {ord:List Nat} {cs:List Value} (hQ:Q.Ok) (H:bJ h r Q.g) (hE:jd (fh x) (cS x)) (hcs:cs[0]? =some (ptr r))
    (o:Own h0 h [aj a [ptr (b x)] ua,aj s2 [ptr rs] tZ,aj rs cs iD,yu (b x) (hp x) (lm x) (am x) (cm x) x (fo x) (fh x),dz (am x) (cE bF)])
    (hb:Bk Q.g.ag (c7 x) (cS x) Q.ok bF ord (Q.src x) u rest d) (hK:∀h',Ext h h'->K (sq Q x rest) h'):
    aS Tryz.prog (.func (.func EY) #[] #[ptr a,ptr s2]) [I u].toArray h K:=by
  refine bU (l:=[I u,ptr a,ptr s2]) rfl (adK _ _ _ ?_);unfold Rv;refine o.load 0 rfl rfl ?_;simp only[bz,aQ];refine o.load 3 rfl rfl (o.look 4 rfl ?_);rw[if_neg (by decide)];cases hb with
  | nil ha=>
    rw[show(cE bF (Q.src x:Int)).getD (.int .i64 0)=I (-1) by unfold cE;rw[ha];rfl,bu,show decide ((-1:Int)<0)=true from rfl,bq];exact hK h (.refl _ _)
  | @cons i rest d ha hi hok ho hb=>
    rw[show(cE bF (cS x (aD Q.g.ag i):Int)).getD (.int .i64 0)=I i by unfold cE;rw[ha];rfl,bu,show decide ((i:Int)<0)=false from decide_eq_false (by omega),aL];refine o.load 1 rfl rfl ?_;simp only[bz,aQ];refine o.load 2 rfl hcs (nY H hi λh1 x1=> ?_);have ea:Q.g.ag[i]=aD Q.g.ag i:=by simp[aD,hi]
    rw[ea];have o1:=o.more x1;simp only[b9,bZ];have he:=hQ.r.ends _ (gD hi);have m:=hQ.r.most;have j:=Own.start h1;refine j.box λa8 h2 s2'=>s2'.st 0 rfl rfl rfl rfl rfl (fS _) λh3 s3=> ?_;have c:=o1.more s3.ext;refine s3.load 0 rfl rfl (s3.load 0 rfl rfl ?_);rw[bt,bG (by omega) (by omega)];refine c.load 0 rfl rfl ?_;simp only[bz,aQ];refine c.load 3 rfl rfl (s3.bN (cs':=dS (aD Q.g.ag i)) 0 rfl rfl rfl (hE _ _ _ λh4 k=> ?_));have s4:=s3.more k;refine⟨s4.load 0 rfl rfl rfl,s4.load 0 rfl rfl rfl,?_⟩;have e:((aD Q.g.ag i).f:Int)+(aD Q.g.ag i).t-cS x (aD Q.g.ag i)=c7 x (aD Q.g.ag i):=by
      cases x
      · show((aD Q.g.ag i).f:Int)+(aD Q.g.ag i).t-(aD Q.g.ag i).t=(aD Q.g.ag i).f;omega
      · show((aD Q.g.ag i).f:Int)+(aD Q.g.ag i).t-(aD Q.g.ag i).f=(aD Q.g.ag i).t;omega
    rw[eM,e,bG (by cases x<;>simp only[c7]<;>simp <;>omega) (by cases x<;>simp only[c7]<;>simp <;>omega)];exact hK h4 (x1.trans s4.ext λ_ h _=>h)
theorem ajq{u:Nat}{rr:List Nat}{d:Int}{wa:Value}{a:Int}(hQ:Q.Ok)(H:bJ h0 r Q.g)(hE:jd (fh false) (cS false))(hm:S.meet=(u:Int))(hrl:rr.length<=Q.g.n)
    (o:Own h0 h (aj rs [ptr r,I Q.s,I Q.t,va,vp,ptr (b false),ptr (b true),I a,wa,ve,I S.meet] iD::(dD Q rs r va vp b hp lm am cm fo fh F S ve M).tail))
    (hb:Bk Q.g.ag (c7 false) (cS false) Q.ok (S.sd false).bF (S.sd false).ord (Q.src false) u rr d)
    (hK:∀w h',Own h0 h' (aA aG 1 au w (nI rr)::aj rs [ptr r,I Q.s,I Q.t,va,vp,ptr (b false),ptr (b true),I a,wa,ve,I S.meet] iD::(dD Q rs r va vp b hp lm am cm fo fh F S ve M).tail)->K w h'):
    ah Tryz.prog wG [ptr rs,ptr (b false)] h K:=by
  have A:=hQ.r.most;refine aK (PD _ _ ?_);unfold Gg;refine o.box λs2 h1 o1=>o1.box λf h2 o2=>o2.load 1 rfl rfl ?_;simp only[bz,aQ];refine o2.load 2 rfl rfl ?_;rw[hm];refine aK (Ru _ _ ?_);unfold Gr;refine B8 (x:=false) hQ (H.more o2.ext) hE rfl (o2.bh [0,1,2,3,6] (by decide)) hb λh3 j=> ?_;have l:=(o2.more j).en (enc:=aG) (n:=1) (T:=au);have fin:∀w hh,Own h0 hh (aA aG 1 au w (nI rr)::aj f [ptr (b false)] ua::aj s2 [ptr rs] tZ::aj rs [ptr r,I Q.s,I Q.t,va,vp,ptr (b false),ptr (b true),I a,wa,ve,I S.meet] iD::(dD Q rs r va vp b hp lm am cm fo fh F S ve M).tail)->K w hh:=λw hh m=>
    hK w hh (m.front 4 [0,3] (by decide) (by decide))
  have ext:∀(rest:List Nat),∃p q t,sq Q false rest=.tuple #[p,q,t]/\t=.bool (!rest.isEmpty):=λrest=>by cases rest<;>exact⟨_,_,_,rfl,rfl⟩
  obtain⟨p,q,t,e1,e2⟩:=ext rr;rw[e1];simp only[b9,bZ,k8];refine pW (k0:=rr.length) (λk y h'=>∃(acc rest:List Nat)(u':Nat)(d':Int),rest.length=k/\acc++rest=rr/\Bk Q.g.ag (c7 false) (cS false) Q.ok (S.sd false).bF (S.sd false).ord (Q.src false) u' rest d'/\
      sq Q false rest=.tuple #[y.2.1,y.2.2.1,y.2.2.2.1]/\y.2.2.2.1=.bool (!rest.isEmpty)/\Own h0 h' (aA aG 1 au y.1 (nI acc)::aj f [ptr (b false)] ua::aj s2 [ptr rs] tZ::aj rs [ptr r,I Q.s,I Q.t,va,vp,ptr (b false),ptr (b true),I a,wa,ve,I S.meet] iD::(dD Q rs r va vp b hp lm am cm fo fh F S ve M).tail))
    ⟨[],rr,u,d,rfl,rfl,hb,e1,e2,l⟩ ?_
  clear o1 o2 l o j hb e1 e2 p q t;rintro k ⟨l4,C,D,E,⟨⟩⟩ h4 Z ⟨acc,rest,u',d',hk,c,hb,e1,e2,o⟩ hZ;dsimp only at e1 e2 o hZ ⊢;unfold Gq;subst e2;cases rest with
  | nil=>
    rw[show(!([]:List Nat).isEmpty)=false from rfl,aL];rw[List.append_nil]at c;subst c;exact fin l4 h4 o
  | cons i rest=>
    rw[show(!(i::rest).isEmpty)=true from rfl,bq];simp only[sq,Value.tuple.injEq,Array.mk.injEq,List.cons.injEq,and_true]at e1;obtain⟨rfl,rfl,_⟩:=e1;have hal:acc.length<2^30:=by
      have :=congrArg List.length c;simp at this;omega
    refine o.fF 0 (i:Int) rfl rfl (bW rfl) mU ja rfl (by decide) (by rw[dI];omega) λw2 h5 e=> ?_;cases hb with
    | cons ha hi hok ho hb'=>
      refine B8 (x:=false) hQ (H.more e.ext) hE rfl (e.bh [1,2,3,4,7] (by decide)) hb' λh6 v=> ?_;have z:=e.more v;obtain⟨p,q,t,e1,e2⟩:=ext rest;rw[e1];simp only[b9,bZ,k8];refine hZ (w2,(p,(q,(t,())))) h6 rest.length (by rw[<-hk];simp) ⟨acc++ [i],rest,_,_,rfl,by rw[<-c];simp,hb',e1,e2,?_⟩;rw[show nI (acc++ [i])=nI acc++ [(i:Int)] by simp[nI]];exact z
theorem ajr {v:Value} {c a:Value} (H:bJ h0 r Q.g) (hfo:(fo false).cells= #[fo false]) (d:(fh false).cells= #[fh false]) (i:Mh.plainCell (fo false)=true) (j:Mh.plainCell (fh false)=true)
    (o:Own h0 h (aj rs [ptr r,I Q.s,I Q.t,va,vp,c,a,I aI,aN,aN,I 0] iD::M))
    (hK:∀b hp lm am cm F h',Own h0 h' (yu b hp lm am cm false (fo false) (fh false)::fP F hp [] Q.g.n::dz lm (λ_=>none)::dz am (λ_=>none)::dz cm (λ_=>none)::aj rs [ptr r,I Q.s,I Q.t,va,vp,ptr b,a,I aI,aN,aN,I 0] iD::M)->K (.tuple #[]) h'):
    ah Tryz.prog wE [ptr rs,I (sI false),v,I (if false=true then -1 else 1),fo false,fh false] h K:=by
  refine aK (Px _ _ _ _ _ _ ?_);unfold Gc;simp only[bz,aQ];refine o.load 0 rfl rfl ?_;have fin:∀hp lm am cm F hh,Own h0 hh (fP F hp [] Q.g.n::dz lm (λ_=>none)::dz am (λ_=>none)::dz cm (λ_=>none)::aj rs [ptr r,I Q.s,I Q.t,va,vp,c,a,I aI,aN,aN,I 0] iD::M)->
      (aP [(.pointer none),(.int .i64 0),(.int .i64 0),.nilFunc,.nilFunc,(.map none),(.map none),(.map none)] [(0,1,ptr hp),(1,1,I (sI false)),(2,1,I (if false=true then -1 else 1)),(3,1,fo false),(4,1,fh false),(5,1,.map (some lm)),(6,1,.map (some am)),(7,1,.map (some cm))] λt27=>
        aB cD t27 hh λt28 h_6=>bV 1 2 (.pointer (some ⟨rs,0+5,none⟩)) (I (sI false)) λt31=>aC 1 t31 t28 h_6 λu h_7=>K (.tuple #[]) h_7):=λhp lm am cm F hh o=>by
    refine cG (cs':=[ptr hp,I (sI false),I (if false=true then -1 else 1),fo false,fh false,.map (some lm),.map (some am),.map (some cm)]) (λp hp=>by
      simp only[List.mem_cons,List.not_mem_nil,or_false]at hp;rcases hp with rfl|rfl|rfl|rfl|rfl|rfl|rfl|rfl<;>first |rfl|exact hfo|exact d) rfl rfl ?_
    refine o.box λbb h6 e=> ?_;rw[jq];refine⟨by decide,e.bf 5 rfl rfl rfl rfl rfl λh7 f=>hK bb hp lm am cm F h7 ?_⟩;exact f
  repeat' (first
    |with_reducible apply And.intro
    |(with_reducible show bp _ _);refine o.mkMap λm hh o=> ?_
    |(with_reducible show ah _ ct _ _ _);refine dF (H.more o.ext) ?_
    |(with_reducible show ah _ cP _ _ _);refine Bs o λk hp hh o=> ?_
    | (with_reducible show aP _ _ _)
      first
          |exact fin _ _ _ _ _ _ (o.front 5 [0,1,2,3,4] (by decide) (by decide))
          |exact fin _ _ _ _ _ _ (o.front 5 [0,1,3,2,4] (by decide) (by decide))
          |exact fin _ _ _ _ _ _ (o.front 5 [0,2,1,3,4] (by decide) (by decide))
          |exact fin _ _ _ _ _ _ (o.front 5 [0,2,3,1,4] (by decide) (by decide))
          |exact fin _ _ _ _ _ _ (o.front 5 [0,3,1,2,4] (by decide) (by decide))
          |exact fin _ _ _ _ _ _ (o.front 5 [0,3,2,1,4] (by decide) (by decide))
          |exact fin _ _ _ _ _ _ (o.front 5 [1,0,2,3,4] (by decide) (by decide))
          |exact fin _ _ _ _ _ _ (o.front 5 [1,0,3,2,4] (by decide) (by decide))
          |exact fin _ _ _ _ _ _ (o.front 5 [1,2,0,3,4] (by decide) (by decide))
          |exact fin _ _ _ _ _ _ (o.front 5 [1,2,3,0,4] (by decide) (by decide))
          |exact fin _ _ _ _ _ _ (o.front 5 [1,3,0,2,4] (by decide) (by decide))
          |exact fin _ _ _ _ _ _ (o.front 5 [1,3,2,0,4] (by decide) (by decide))
          |exact fin _ _ _ _ _ _ (o.front 5 [2,0,1,3,4] (by decide) (by decide))
          |exact fin _ _ _ _ _ _ (o.front 5 [2,0,3,1,4] (by decide) (by decide))
          |exact fin _ _ _ _ _ _ (o.front 5 [2,1,0,3,4] (by decide) (by decide))
          |exact fin _ _ _ _ _ _ (o.front 5 [2,1,3,0,4] (by decide) (by decide))
          |exact fin _ _ _ _ _ _ (o.front 5 [2,3,0,1,4] (by decide) (by decide))
          |exact fin _ _ _ _ _ _ (o.front 5 [2,3,1,0,4] (by decide) (by decide))
          |exact fin _ _ _ _ _ _ (o.front 5 [3,0,1,2,4] (by decide) (by decide))
          |exact fin _ _ _ _ _ _ (o.front 5 [3,0,2,1,4] (by decide) (by decide))
          |exact fin _ _ _ _ _ _ (o.front 5 [3,1,0,2,4] (by decide) (by decide))
          |exact fin _ _ _ _ _ _ (o.front 5 [3,1,2,0,4] (by decide) (by decide))
          |exact fin _ _ _ _ _ _ (o.front 5 [3,2,0,1,4] (by decide) (by decide))
          |exact fin _ _ _ _ _ _ (o.front 5 [3,2,1,0,4] (by decide) (by decide)))
theorem ajs{u:Nat}{rr:List Nat}{d:Int}{wa:Value}{a:Int}(hQ:Q.Ok)(H:bJ h0 r Q.g)(hE:jd (fh true) (cS true))(hm:S.meet=(u:Int))(hrl:rr.length<=Q.g.n)
    (o:Own h0 h (aj rs [ptr r,I Q.s,I Q.t,va,vp,ptr (b false),ptr (b true),I a,wa,ve,I S.meet] iD::(dD Q rs r va vp b hp lm am cm fo fh F S ve M).tail))
    (hb:Bk Q.g.ag (c7 true) (cS true) Q.ok (S.sd true).bF (S.sd true).ord (Q.src true) u rr d)
    (hK:∀w h',Own h0 h' (aA aG 1 au w (nI rr)::aj rs [ptr r,I Q.s,I Q.t,va,vp,ptr (b false),ptr (b true),I a,wa,ve,I S.meet] iD::(dD Q rs r va vp b hp lm am cm fo fh F S ve M).tail)->K w h'):
    ah Tryz.prog wG [ptr rs,ptr (b true)] h K:=by
  have A:=hQ.r.most;refine aK (PD _ _ ?_);unfold Gg;refine o.box λs2 h1 o1=>o1.box λf h2 o2=>o2.load 1 rfl rfl ?_;simp only[bz,aQ];refine o2.load 2 rfl rfl ?_;rw[hm];refine aK (Ru _ _ ?_);unfold Gr;refine B8 (x:=true) hQ (H.more o2.ext) hE rfl (o2.bh [0,1,2,8,11] (by decide)) hb λh3 j=> ?_;have l:=(o2.more j).en (enc:=aG) (n:=1) (T:=au);have fin:∀w hh,Own h0 hh (aA aG 1 au w (nI rr)::aj f [ptr (b true)] ua::aj s2 [ptr rs] tZ::aj rs [ptr r,I Q.s,I Q.t,va,vp,ptr (b false),ptr (b true),I a,wa,ve,I S.meet] iD::(dD Q rs r va vp b hp lm am cm fo fh F S ve M).tail)->K w hh:=λw hh m=>
    hK w hh (m.front 4 [0,3] (by decide) (by decide))
  have ext:∀(rest:List Nat),∃p q t,sq Q true rest=.tuple #[p,q,t]/\t=.bool (!rest.isEmpty):=λrest=>by cases rest<;>exact⟨_,_,_,rfl,rfl⟩
  obtain⟨p,q,t,e1,e2⟩:=ext rr;rw[e1];simp only[b9,bZ,k8];refine pW (k0:=rr.length) (λk y h'=>∃(acc rest:List Nat)(u':Nat)(d':Int),rest.length=k/\acc++rest=rr/\Bk Q.g.ag (c7 true) (cS true) Q.ok (S.sd true).bF (S.sd true).ord (Q.src true) u' rest d'/\
      sq Q true rest=.tuple #[y.2.1,y.2.2.1,y.2.2.2.1]/\y.2.2.2.1=.bool (!rest.isEmpty)/\Own h0 h' (aA aG 1 au y.1 (nI acc)::aj f [ptr (b true)] ua::aj s2 [ptr rs] tZ::aj rs [ptr r,I Q.s,I Q.t,va,vp,ptr (b false),ptr (b true),I a,wa,ve,I S.meet] iD::(dD Q rs r va vp b hp lm am cm fo fh F S ve M).tail))
    ⟨[],rr,u,d,rfl,rfl,hb,e1,e2,l⟩ ?_
  clear o1 o2 l o j hb e1 e2 p q t;rintro k ⟨l4,C,D,E,⟨⟩⟩ h4 Z ⟨acc,rest,u',d',hk,c,hb,e1,e2,o⟩ hZ;dsimp only at e1 e2 o hZ ⊢;unfold Gq;subst e2;cases rest with
  | nil=>
    rw[show(!([]:List Nat).isEmpty)=false from rfl,aL];rw[List.append_nil]at c;subst c;exact fin l4 h4 o
  | cons i rest=>
    rw[show(!(i::rest).isEmpty)=true from rfl,bq];simp only[sq,Value.tuple.injEq,Array.mk.injEq,List.cons.injEq,and_true]at e1;obtain⟨rfl,rfl,_⟩:=e1;have hal:acc.length<2^30:=by
      have :=congrArg List.length c;simp at this;omega
    refine o.fF 0 (i:Int) rfl rfl (bW rfl) mU ja rfl (by decide) (by rw[dI];omega) λw2 h5 e=> ?_;cases hb with
    | cons ha hi hok ho hb'=>
      refine B8 (x:=true) hQ (H.more e.ext) hE rfl (e.bh [1,2,3,9,12] (by decide)) hb' λh6 v=> ?_;have z:=e.more v;obtain⟨p,q,t,e1,e2⟩:=ext rest;rw[e1];simp only[b9,bZ,k8];refine hZ (w2,(p,(q,(t,())))) h6 rest.length (by rw[<-hk];simp) ⟨acc++ [i],rest,_,_,rfl,by rw[<-c];simp,hb',e1,e2,?_⟩;rw[show nI (acc++ [i])=nI acc++ [(i:Int)] by simp[nI]];exact z
theorem ajt {v:Value} {a c:Value} (H:bJ h0 r Q.g) (hfo:(fo true).cells= #[fo true]) (d:(fh true).cells= #[fh true]) (i:Mh.plainCell (fo true)=true) (j:Mh.plainCell (fh true)=true)
    (o:Own h0 h (aj rs [ptr r,I Q.s,I Q.t,va,vp,a,c,I aI,aN,aN,I 0] iD::M))
    (hK:∀b hp lm am cm F h',Own h0 h' (yu b hp lm am cm true (fo true) (fh true)::fP F hp [] Q.g.n::dz lm (λ_=>none)::dz am (λ_=>none)::dz cm (λ_=>none)::aj rs [ptr r,I Q.s,I Q.t,va,vp,a,ptr b,I aI,aN,aN,I 0] iD::M)->K (.tuple #[]) h'):
    ah Tryz.prog wE [ptr rs,I (sI true),v,I (if true=true then -1 else 1),fo true,fh true] h K:=by
  refine aK (Px _ _ _ _ _ _ ?_);unfold Gc;simp only[bz,aQ];refine o.load 0 rfl rfl ?_;have fin:∀hp lm am cm F hh,Own h0 hh (fP F hp [] Q.g.n::dz lm (λ_=>none)::dz am (λ_=>none)::dz cm (λ_=>none)::aj rs [ptr r,I Q.s,I Q.t,va,vp,a,c,I aI,aN,aN,I 0] iD::M)->
      (aP [(.pointer none),(.int .i64 0),(.int .i64 0),.nilFunc,.nilFunc,(.map none),(.map none),(.map none)] [(0,1,ptr hp),(1,1,I (sI true)),(2,1,I (if true=true then -1 else 1)),(3,1,fo true),(4,1,fh true),(5,1,.map (some lm)),(6,1,.map (some am)),(7,1,.map (some cm))] λt27=>
        aB cD t27 hh λt28 h_6=>bV 1 2 (.pointer (some ⟨rs,0+5,none⟩)) (I (sI true)) λt31=>aC 1 t31 t28 h_6 λu h_7=>K (.tuple #[]) h_7):=λhp lm am cm F hh o=>by
    refine cG (cs':=[ptr hp,I (sI true),I (if true=true then -1 else 1),fo true,fh true,.map (some lm),.map (some am),.map (some cm)]) (λp hp=>by
      simp only[List.mem_cons,List.not_mem_nil,or_false]at hp;rcases hp with rfl|rfl|rfl|rfl|rfl|rfl|rfl|rfl<;>first |rfl|exact hfo|exact d) rfl rfl ?_
    refine o.box λbb h6 e=> ?_;rw[jq];refine⟨by decide,e.bf 5 rfl rfl rfl rfl rfl λh7 f=>hK bb hp lm am cm F h7 ?_⟩;exact f
  repeat' (first
    |with_reducible apply And.intro
    |(with_reducible show bp _ _);refine o.mkMap λm hh o=> ?_
    |(with_reducible show ah _ ct _ _ _);refine dF (H.more o.ext) ?_
    |(with_reducible show ah _ cP _ _ _);refine Bs o λk hp hh o=> ?_
    | (with_reducible show aP _ _ _)
      first
          |exact fin _ _ _ _ _ _ (o.front 5 [0,1,2,3,4] (by decide) (by decide))
          |exact fin _ _ _ _ _ _ (o.front 5 [0,1,3,2,4] (by decide) (by decide))
          |exact fin _ _ _ _ _ _ (o.front 5 [0,2,1,3,4] (by decide) (by decide))
          |exact fin _ _ _ _ _ _ (o.front 5 [0,2,3,1,4] (by decide) (by decide))
          |exact fin _ _ _ _ _ _ (o.front 5 [0,3,1,2,4] (by decide) (by decide))
          |exact fin _ _ _ _ _ _ (o.front 5 [0,3,2,1,4] (by decide) (by decide))
          |exact fin _ _ _ _ _ _ (o.front 5 [1,0,2,3,4] (by decide) (by decide))
          |exact fin _ _ _ _ _ _ (o.front 5 [1,0,3,2,4] (by decide) (by decide))
          |exact fin _ _ _ _ _ _ (o.front 5 [1,2,0,3,4] (by decide) (by decide))
          |exact fin _ _ _ _ _ _ (o.front 5 [1,2,3,0,4] (by decide) (by decide))
          |exact fin _ _ _ _ _ _ (o.front 5 [1,3,0,2,4] (by decide) (by decide))
          |exact fin _ _ _ _ _ _ (o.front 5 [1,3,2,0,4] (by decide) (by decide))
          |exact fin _ _ _ _ _ _ (o.front 5 [2,0,1,3,4] (by decide) (by decide))
          |exact fin _ _ _ _ _ _ (o.front 5 [2,0,3,1,4] (by decide) (by decide))
          |exact fin _ _ _ _ _ _ (o.front 5 [2,1,0,3,4] (by decide) (by decide))
          |exact fin _ _ _ _ _ _ (o.front 5 [2,1,3,0,4] (by decide) (by decide))
          |exact fin _ _ _ _ _ _ (o.front 5 [2,3,0,1,4] (by decide) (by decide))
          |exact fin _ _ _ _ _ _ (o.front 5 [2,3,1,0,4] (by decide) (by decide))
          |exact fin _ _ _ _ _ _ (o.front 5 [3,0,1,2,4] (by decide) (by decide))
          |exact fin _ _ _ _ _ _ (o.front 5 [3,0,2,1,4] (by decide) (by decide))
          |exact fin _ _ _ _ _ _ (o.front 5 [3,1,0,2,4] (by decide) (by decide))
          |exact fin _ _ _ _ _ _ (o.front 5 [3,1,2,0,4] (by decide) (by decide))
          |exact fin _ _ _ _ _ _ (o.front 5 [3,2,0,1,4] (by decide) (by decide))
          |exact fin _ _ _ _ _ _ (o.front 5 [3,2,1,0,4] (by decide) (by decide)))
end
open Go Go.Mh
def nC(g:G)(f t:Int)(la a:Nat):Prop:=((0<=f/\f<g.n)/\(0<=t/\t<g.n))/\(la=0\/la=g.ag.length)/\(a=0\/a=g.n)
instance {g:G} {f t:Int} {la a:Nat}:Decidable (nC g f t la a):=by unfold nC;infer_instance
section
variable{h0 h:aa}{L M:List aM}{K:KT}{g:G}{r:Nat}{va vp:Value}{allow:List Bool}{pi:List Int}{f t:Int}
theorem WB{n2:Nat}{z:Int}(H:bJ h r g)(hc:hcell h ⟨n2,0,none⟩=some (ptr r))(hK:K (.bool (decide (0<=z/\z<g.n))) h):aS Tryz.prog (.func (.func Ai) #[] #[ptr n2]) [I z].toArray h K:=by
 refine bU (l:=[I z,ptr n2]) rfl (adG _ _ ?_);unfold Rp;rw[c8,bg];refine⟨λh1=>bC rfl hc (dF H ?_),λh1=> ?_⟩
 ·rw[bu];rw[show decide (0<=z/\z<g.n)=decide (z<g.n) by simp[h1]]at hK;exact hK
 ·rw[show decide (0<=z/\z<g.n)=false from decide_eq_false λh=>h1 h.1]at hK;exact hK
theorem WC{a c:Nat}(hK:K (.bool (decide (a=0\/a=c))) h):aS Tryz.prog (.func (.func Aj) #[] #[]) [I a,I c].toArray h K:=by
 refine bU (l:=[I a,I c]) rfl (adH _ _ ?_);unfold Rq;rw[cF,iW];refine⟨λh1=> ?_,λh1=> ?_⟩
 ·rw[show decide (a=0\/a=c)=true from decide_eq_true (.inl (by omega))]at hK;exact hK
 ·rw[cF];rw[show decide (a=0\/a=c)=((a:Int)==(c:Int)) by
   rw[Bool.eq_iff_iff,decide_eq_true_eq,beq_iff_eq];omega]at hK
  exact hK
theorem aju(H:bJ h r g)(Ha:Vw B6 1 h va allow)(c:Vw aG 1 h vp pi)(hK:∀h',Ext h h'->K (.bool (decide (nC g f t allow.length pi.length))) h'):ah Tryz.prog En [ptr r,.agg #[I f,I t,va,vp]] h K:=by
 refine aK (acF _ _ ?_);unfold Pw;refine(Own.start h).box λn2 h1 o1=>o1.box λa3 h2 o2=> ?_;have o:Own h h2 [aj a3 [I f,I t,va,vp] iM,aj n2 [ptr r] cq]:=o2;refine gh (λy h''=>y.1=.bool (decide (nC g f t allow.length pi.length))/\h''=h2) (λJ hJ=> ?_) ?_
 ·have fin:∀b:Bool,(b=true↔nC g f t allow.length pi.length)->J (.bool b,()) h2:=λb hb=>hJ _ _ ⟨by
   show Value.bool b=_;congr 1;rw[Bool.eq_iff_iff,decide_eq_true_eq];exact hb,rfl⟩
  have no:¬nC g f t allow.length pi.length->J (.bool false,()) h2:=λhn=>fin false ⟨λh=>(by cases h),λh=>absurd h hn⟩;have a:hcell h2 ⟨n2,0,none⟩=some (ptr r):=aY (o.get 1 rfl) rfl;simp only[aQ];refine o.load 0 rfl rfl (WB (H.more o.ext) a ?_);rw[bg];refine⟨λh1=> ?_,λh1=>no λh=>h1 h.1.1⟩;refine o.load 0 rfl rfl (WB (H.more o.ext) a ?_);rw[bg];refine⟨λh2=> ?_,λh2=>no λh=>h2 h.1.2⟩;refine o.load 0 rfl rfl ((Ha.more o.ext).len (o.load 1 rfl rfl (rQ (H.more o.ext) ⟨o.load 0 rfl rfl rfl,WC ?_⟩)));rw[bg];refine⟨λh3=> ?_,λh3=>no λh=>h3 h.2.1⟩;refine o.load 0 rfl rfl ((c.more o.ext).len (o.load 1 rfl rfl (dF (H.more o.ext) ⟨o.load 0 rfl rfl rfl,WC ?_⟩)));refine fin _ ?_;rw[decide_eq_true_eq];exact⟨λh=>⟨⟨h1,h2⟩,h3,h⟩,λh=>h.2.2⟩
 ·rintro⟨y,⟨⟩⟩ h3 ⟨hy,rfl⟩;dsimp only at hy ⊢;subst hy;unfold Pv;exact hK _ o.ext
def nD(r:Nat)(x:Bool):Value:=if x then .func (.func rC) #[ptr r] #[]else .func (.func rz) #[ptr r] #[]
def lU(x:Bool):Value:=if x then .func (.func Ep) #[] #[]else .func (.func Eo) #[] #[]
theorem ajv:jd (lU false) (cS false):=by
 intro a h K hK;refine bU (l:=[.agg (dS a).toArray]) rfl (acG _ ?_);unfold Py;refine(Own.start h).box λb h1 o1=> ?_;simp only[aQ];exact o1.load 0 rfl rfl (hK _ o1.ext)
theorem ajw:jd (lU true) (cS true):=by
 intro a h K hK;refine bU (l:=[.agg (dS a).toArray]) rfl (acH _ ?_);unfold Pz;refine(Own.start h).box λb h1 o1=> ?_;simp only[aQ];exact o1.load 0 rfl rfl (hK _ o1.ext)
theorem WD(hR:g.Right)(x:Bool):rX (nD r x) g r (gz g x):=by
 cases x
 ·exact TT hR
 ·exact TU hR
theorem B9(x:Bool):jd (lU x) (cS x):=by
 cases x
 ·exact ajv
 ·exact ajw
def IB(Q:Qs)(ag:List Nat):Prop:=(Q.fin.aH=aI/\ag=[])\/(Q.fin.aH≠aI/\Trail Q.g.ag Q.s ag Q.t/\cJ Q.g.ag ag=Q.fin.aH/\ag.length<=2*Q.g.n/\∀i∈ag,i<Q.g.ag.length/\Q.ok i=true)
theorem ajx(hR:g.Right)(H:bJ h r g)(Ha:Vw B6 1 h va allow)(c:Vw aG 1 h vp pi)
  (aB:¬nC g f t allow.length pi.length->∀h',Ext h h'->K (.tuple #[.agg #[I 0,aN,aN],I 2]) h') (hsame:nC g f t allow.length pi.length->f=t->∀h',Ext h h'->K (.tuple #[.agg #[I 0,aN,aN],I 0]) h')
  (hfound:∀s t',f=((s:Nat):Int)->t=((t':Nat):Int)->(Qs.mk g s t' allow pi).Ok->s≠t'->∀wa E ag h',IB ⟨g,s,t',allow,pi⟩ ag->Own h h' [aA aG 1 au wa (nI ag),aA dA 4 eO E (Qs.mk g s t' allow pi).fin.ev]->
   K (.tuple #[.agg #[I (Qs.mk g s t' allow pi).fin.aH,wa,E],I 0]) h'):ah Tryz.prog nT [ptr r,.agg #[I f,I t,va,vp]] h K:=by
 refine aK (abt _ _ ?_);unfold NQ;refine(Own.start h).box λa3 h1 o1=>o1.box λt4 h2 o2=> ?_;have o:Own h h2 [aj t4 [I 0,aN,aN] dJ,aj a3 [I f,I t,va,vp] iM]:=o2;clear o1 o2;simp only[ef,Option.isNone_some,aL];refine o.bN (cs':=[I f,I t,va,vp]) 1 rfl rfl rfl (aju (H.more o.ext) (Ha.more o.ext) (c.more o.ext) λh3 aC=> ?_);replace o:=o.more aC;have J:∀u∈ [I 0,aN,aN],Mh.plainCell u=true:=by intro u hu;simp at hu;rcases hu with rfl|rfl|rfl<;>rfl
 rw[bH];by_cases hr:¬nC g f t allow.length pi.length
 ·rw[decide_eq_false hr,Bool.not_false,bq];refine cG (cs':=[I 0,aN,aN]) (λp hp=>by simp at hp) rfl rfl ?_;exact o.st (cs':=[I 0,aN,aN]) 0 rfl rfl rfl rfl rfl J λh4 a=>a.bN (cs':=[I 0,aN,aN]) 0 rfl rfl rfl (aB hr _ a.ext)
 replace hr:=Decidable.not_not.1 hr;rw[decide_eq_true hr,Bool.not_true,aL];simp only[aQ];refine o.load 1 rfl rfl (o.load 1 rfl rfl ?_);rw[cF,iW];refine⟨λhe=> ?_,λhne=> ?_⟩
 ·refine cG (cs':=[I 0,aN,aN]) (λp hp=>by simp at hp) rfl rfl ?_;exact o.st (cs':=[I 0,aN,aN]) 0 rfl rfl rfl rfl rfl J λh4 a=>a.bN (cs':=[I 0,aN,aN]) 0 rfl rfl rfl (hsame hr he _ a.ext)
 obtain⟨s,hs⟩:=Int.eq_ofNat_of_zero_le hr.1.1.1;obtain⟨t',ht⟩:=Int.eq_ofNat_of_zero_le hr.1.2.1;subst hs ht;have aW:=hr.1.1.2;have aX:=hr.1.2.2;have hQ:(Qs.mk g s t' allow pi).Ok:=⟨hR,by show s<g.n;omega,by show t'<g.n;omega,hr.2.1.imp List.length_eq_zero_iff.1 id,hr.2.2.imp List.length_eq_zero_iff.1 id⟩;have hst:s≠t':=λe=>hne (by rw[e]);have hfound:=hfound s t' rfl rfl hQ hst;obtain⟨Q,l⟩:∃Q:Qs,Q=Qs.mk g s t' allow pi:=⟨_,rfl⟩;have eg:Q.g=g:=by rw[l]
 have es:Q.s=s:=by rw[l]
 have et:Q.t=t':=by rw[l]
 have ea:Q.allow=allow:=by rw[l]
 have aD:Q.pi=pi:=by rw[l]
 rw[<-l]at hQ hfound;rw[<-eg]at H;rw[<-ea]at Ha;rw[<-aD]at c;rw[<-es,<-et]at o hst;have aY:=Ha.one;have aZ:=c.one;have hval:=Ha.plain;have bk:=c.plain;refine o.bN (cs':=[I Q.s,I Q.t,va,vp]) 1 rfl rfl rfl ?_;refine cG (cs':=[I aI,aN,aN]) (λp hp=>by simp at hp;rcases hp with rfl;rfl) rfl rfl ?_;refine⟨bW rfl,?_⟩;refine o.box λrs h4 a=> ?_;have a:Own h h4 (aj rs [ptr r,I Q.s,I Q.t,va,vp,.pointer none,.pointer none,I aI,aN,aN,I 0] iD:: [aj t4 [I 0,aN,aN] dJ,aj a3 [I Q.s,I Q.t,va,vp] iM]):=a;refine a.load 2 rfl rfl ?_;refine ajr (Q:=Q) (fo:=nD r) (fh:=lU) H rfl rfl rfl rfl a λb0 N O P U V h5 A=> ?_;refine A.load 7 rfl rfl ?_;refine ajt (Q:=Q) (fo:=nD r) (fh:=lU) H rfl rfl rfl rfl (A.bh [5,0,1,2,3,4,6,7] (by decide)) λb1 hp1 X Y af ai h6 ak=> ?_;have i:=ak.en (enc:=dA) (n:=4) (T:=eO);obtain⟨b,hb0,aE⟩:∃b:Bool->Nat,b false=b0/\b true=b1:=⟨λx=>if x then b1 else b0,rfl,rfl⟩;obtain⟨hp,aF,aJ⟩:∃b:Bool->Nat,b false=N/\b true=hp1:=⟨λx=>if x then hp1 else N,rfl,rfl⟩;obtain⟨lm,hl0,aM⟩:∃b:Bool->Nat,b false=O/\b true=X:=⟨λx=>if x then X else O,rfl,rfl⟩;obtain⟨am,ha0,ha1⟩:∃b:Bool->Nat,b false=P/\b true=Y:=⟨λx=>if x then Y else P,rfl,rfl⟩;obtain⟨cm,hc0,hc1⟩:∃b:Bool->Nat,b false=U/\b true=af:=⟨λx=>if x then af else U,rfl,rfl⟩;obtain⟨aO,aP,aR⟩:∃b:Bool->Nat->Prop,b false=V/\b true=ai:=⟨λx=>if x then ai else V,rfl,rfl⟩;subst hb0 aE aF aJ hl0 aM ha0 ha1 hc0 hc1 aP aR;have bl:jy []=λ_=>none:=rfl;have bn:cE (λ_=>none)=λ_=>none:=rfl;have o:Own h h6 (dD Q rs r va vp b hp lm am cm (nD r) lU aO BW.zero aN [aj t4 [I 0,aN,aN] dJ,aj a3 [I Q.s,I Q.t,va,vp] iM]):=
  i.bh [6,7,8,9,10,11,1,2,3,4,5,0,12,13] (by decide)
 clear a A ak i;have hz:∀x:Bool,(λ_:Bool=>(0:Int)) x<=aI:=λ_=>by show(0:Int)<=aI;decide
 obtain⟨an,_,z3,_,_⟩:=BI.first (Q:=Q) (S:=BW.zero) BI.zero hQ (x:=false) rfl;simp only[bz,aQ];rw[jq];refine⟨by decide,o.load 0 rfl rfl (o.load 13 rfl rfl ?_)⟩;refine Wy (x:=false) hQ BI.zero hz o c hQ.s ⟨Int.le_refl _,by decide⟩ λbp h7 i=> ?_;rw[jq];refine⟨by decide,i.load 0 rfl rfl (i.load 13 rfl rfl ?_)⟩;refine Wy (x:=true) hQ an hz i c hQ.t ⟨Int.le_refl _,by decide⟩ λaq h8 m=> ?_;have m:Own h h8 (dD Q rs r va vp b hp lm am cm (nD r) lU aq Q.start aN [aj t4 [I 0,aN,aN] dJ,aj a3 [I Q.s,I Q.t,va,vp] iM]):=m;have R0:=dO.start hQ;have br:=hQ.r.most;have av:∀{S:BW}{st:List dh},dO Q S st->∀x,((S.sd x).ord.length:Int)*W<=aI:=λ{S st} R x=>by
  have h1:=(R.bi.si x).qv;have h2:((S.sd x).ord.length:Int)*W<=16777216*W:=Int.mul_le_mul_of_nonneg_right (by omega) (by decide);have h3:(16777216:Int)*W<aI:=by decide
  omega
 refine Wz R0.bi (av R0) m ?_;have ax:=m;refine pW (k0:=2*Q.g.n+1) (λk y h'=>∃(S:BW)(st:List dh)(F:Bool->Nat->Prop)(ve:Value),y.1=mI b S/\dO Q S st/\Q.run k S=Q.fin/\2*Q.g.n<k+(S.sd false).ord.length+(S.sd true).ord.length/\
   Own h h' (dD Q rs r va vp b hp lm am cm (nD r) lU F S ve [aj t4 [I 0,aN,aN] dJ,aj a3 [I Q.s,I Q.t,va,vp] iM])) ⟨Q.start,[],aq,aN,rfl,R0,rfl,by omega,ax⟩ ?_
 clear ax m i o an z3;rintro k ⟨y,⟨⟩⟩ h9 Z ⟨S,st,F,ve,hy,R,hrun,hk,o⟩ hZ;dsimp only at hy hZ ⊢;subst hy;unfold NP;cases hn:S.next with
 | some x=>
  have hv:mI b S=ptr (b x):=by unfold mI;rw[hn]
  rw[hv,y9,Option.isSome_some,bq];obtain⟨v,kk,d,_,_,_,_,R',e1,e2⟩:=R.step hQ hn;cases k with
  |zero=>
   have h0:=(R.bi.si false).qv;have h1:=(R.bi.si true).qv;omega
  | succ k=>
   have aS:Q.run k (Q.step x S)=Q.fin:=by rw[<-hrun];show _=(match S.next with|none=>S|some x=>Q.run k (Q.step x S));rw[hn]
   have ay:∀F' B h',Own h h' (dD Q rs r va vp b hp lm am cm (nD r) lU F' (Q.step x S) B [aj t4 [I 0,aN,aN] dJ,aj a3 [I Q.s,I Q.t,va,vp] iM])->
     ah Tryz.prog wF [ptr rs] h' (λt65 h_15=>Z (t65,()) h_15):=λF' B h' o'=>by
    refine Wz R'.bi (av R') o' ?_;refine hZ (_,()) h' k (by omega) ⟨_,_,F',B,rfl,R',aS,?_,o'⟩;cases x
    ·rw[e1,show(true:Bool)= !false from rfl,e2,List.length_append,List.length_singleton];show _<_+_+(S.sd true).ord.length;omega
    ·rw[e1,show(false:Bool)= !true from rfl,e2,List.length_append,List.length_singleton];show _<k+(S.sd false).ord.length+_;omega
   cases x
   ·exact ajo hQ R hn H (WD hQ.r false) (B9 false) o c Ha (R.HU hQ) ay
   ·exact ajp hQ R hn H (WD hQ.r true) (B9 true) o c Ha (R.HU hQ) ay
 | none=>
  have hv:mI b S=.pointer none:=by unfold mI;rw[hn]
  have hS:S=Q.fin:=by
   rw[<-hrun];cases k with
   |zero=>rfl
   |succ k=>show S=(match S.next with|none=>S|some x=>Q.run k (Q.step x S));rw[hn]
  rw[hv,y9,Option.isSome_none,aL];simp only[bz,aQ];have k2:∀(wa:Value)(ag:List Nat)(hh:aa),IB Q ag->Own h hh (aj rs [ptr r,I Q.s,I Q.t,va,vp,ptr (b false),ptr (b true),I S.aH,wa,ve,I S.meet] iD::aA aG 1 au wa (nI ag)::(dD Q rs r va vp b hp lm am cm (nD r) lU F S ve [aj t4 [I 0,aN,aN] dJ,aj a3 [I Q.s,I Q.t,va,vp] iM]).tail)->
    AQ Tryz.prog (ptr rs) (ptr t4) K hh:=λwa ag hh hf q=>by
   unfold AQ;simp only[bz,aQ];have p1:=(q.vw 1 rfl).plain;have p2:=(q.vw 12 rfl).plain;refine q.bN (cs':=[I S.aH,wa,ve]) 0 rfl rfl rfl (q.st (cs':=[I S.aH,wa,ve]) 13 rfl rfl rfl rfl rfl (by intro u hu;simp at hu;rcases hu with rfl|rfl|rfl<;>first |rfl|assumption) λh10 j=>j.bN (cs':=[I S.aH,wa,ve]) 13 rfl rfl rfl ?_);rw[hS]at j ⊢;exact hfound wa ve ag h10 hf (j.bh [1,12] (by decide))
  refine o.load 0 rfl rfl ?_;rw[bu,bg];have bt:=R.bi.c3;have bw:aI=72057594037927936:=rfl;refine⟨λhlt=> ?_,λhge=> ?_⟩
  ·have hnf:S.aH≠aI:=λe=>by rw[e]at hlt;omega
   obtain⟨u,w,r1,d0,d1,m1,m2,m3,m4,m5,m6,m7,m8,m9,m10⟩:=R.found hnf;rw[jq];refine⟨by decide,o.load 0 rfl rfl ?_⟩;refine ajq (fo:=nD r) (fh:=lU) (S:=S) hQ H (B9 false) m1 m6 o m4 λw0 h10 j=> ?_;have pw:=(j.vw 0 rfl).plain;refine j.bf 1 rfl rfl rfl (j.vw 0 rfl).one pw λh11 az=>az.load 1 rfl rfl ?_;refine WA az 0 rfl (by rw[dI];omega) λh12 z=> ?_;rw[Kg]at z;refine z.load 1 rfl rfl ?_;rw[jq];refine⟨by decide,z.load 1 rfl rfl ?_⟩;have aT:Own h h12 (aj rs [ptr r,I Q.s,I Q.t,va,vp,ptr (b false),ptr (b true),I S.aH,w0,ve,I S.meet] iD::(dD Q rs r va vp b hp lm am cm (nD r) lU F S ve [aj t4 [I 0,aN,aN] dJ,aj a3 [I Q.s,I Q.t,va,vp] iM,aA aG 1 au w0 (nI w.reverse)]).tail):=
    z.bh [1,2,3,4,5,6,7,8,9,10,11,12,13,14,0] (by decide)
   refine ajs (fo:=nD r) (fh:=lU) (S:=S) hQ H (B9 true) m1 m7 aT m5 λw1 bx C=> ?_;refine⟨C.load 1 rfl rfl rfl,?_⟩;refine C.app 15 rfl mU ja rfl (C.vw 0 rfl) (by decide) (by rw[dI,dI,List.length_reverse];omega) λw2 bA D=> ?_;have p2:=(D.vw 15 rfl).plain;refine D.bf 1 rfl rfl rfl (D.vw 15 rfl).one p2 λaU aV=> ?_;refine k2 w2 (w.reverse++r1) aU (.inr ⟨by rw[<-hS];exact hnf,m8,by rw[m9,hS],by rw[List.length_append,List.length_reverse];omega,m10⟩) ?_;rw[show nI (w.reverse++r1)=nI w.reverse++nI r1 by simp[nI]];exact aV.bh [1,15,2,3,4,5,6,7,8,9,10,11,12,13,14] (by decide)
  ·refine k2 aN [] h9 (.inl ⟨by rw[<-hS];omega,rfl⟩) ?_;exact(o.en (enc:=aG) (n:=1) (T:=au)).swap
end
open Go Go.Mh
abbrev gW(fr to:Nat)(av pv:Value):List Value:=[I fr,I to,av,pv]
abbrev uO(r hp a3:Nat)(lv bv cv ev:Value):List Value:=[ptr r,ptr hp,lv,bv,cv,.func (.func wN) #[] #[ptr a3],.func (.func Ag) #[] #[ptr a3],ev]
abbrev j7(a3 s0 hp r n fr to:Nat)(av pv lv bv cv ev:Value)(F:Nat->Prop)(st:SS)(T:List aM):List aM:=
 aj a3 (gW fr to av pv) iM::aj s0 (uO r hp a3 lv bv cv ev) qk::fP F hp st.hp n::aA aG 1 bY lv st.lab::aA aG 1 au bv st.dx::aA dP 1 eA cv (jX n st.ord)::aA dA 4 eO ev st.cK::T
section
variable{h0 h:aa}{L:List aM}{K:KT}{g:G}{r a3 s0 hp fr to:Nat}{av pv lv bv cv ev:Value}{al:List Bool}{pl:List Int}{F:Nat->Prop}{st:SS}{T:List aM}{B:Int}
theorem ajy{v:Nat}{T1:TypeId}(ha:h[a3]? =some (.cells (gW fr to av pv).toArray T1 (0,0)))(HP:Vw aG 1 h pv pl)(hl:pl=[]\/v<pl.length)(hK:K (I (cQ pl v)) h):aS Tryz.prog (.func (.func Ag) #[] #[ptr a3]) [I v].toArray h K:=by
 refine bU (l:=[I v,ptr a3]) rfl (adC _ _ ?_);unfold Rj;have c3:hcell h ⟨a3,3,none⟩=some pv:=aY ha rfl;simp only[aQ,Nat.zero_add,cI,c3];refine HP.len ?_;rw[cF];unfold cQ at hK;rcases hl with rfl|hl
 ·exact hK
 ·rw[show((pl.length:Int)==0)=false by simp;intro e;rw[e]at hl;simp at hl,aL];refine HP.vQ hl λb o hc=> ?_;simp only[cI,hc,l9];rw[show pl.isEmpty=false by cases pl with
   |nil=>simp at hl
   |cons _ _=>rfl]at hK
  simp only[Bool.false_eq_true,if_false]at hK;rw[oZ hl]at hK;have e:(if pl[v]> -72057594037927936 then pl[v]else -72057594037927936)=max (-aI) pl[v]:=by
   rw[Int.max_def,show aI=72057594037927936 from rfl];split<;>split<;>omega
  rw[e];exact hK
theorem ajz{i:Nat}{T1:TypeId}(ha:h[a3]? =some (.cells (gW fr to av pv).toArray T1 (0,0)))(HA:Vw dP 1 h av al)(hl:al=[]\/i<al.length)(hK:K (.bool (eV al i)) h):aS Tryz.prog (.func (.func wN) #[] #[ptr a3]) [I i].toArray h K:=by
 refine bU (l:=[I i,ptr a3]) rfl (adB _ _ ?_);unfold Rh;have c3:hcell h ⟨a3,2,none⟩=some av:=aY ha rfl;simp only[aQ,Nat.zero_add,cI,c3];refine HA.len ?_;rw[cF];unfold eV at hK;rcases hl with rfl|hl
 ·exact hK
 ·rw[show((al.length:Int)==0)=false by simp;intro e;rw[e]at hl;simp at hl,aL];refine HA.dH (e:=λx:Bool=>.bool x) (λ_=>rfl) hl ?_;rw[show al.isEmpty=false by cases al with
   |nil=>simp at hl
   |cons _ _=>rfl,Bool.false_or,oZ hl]at hK
  exact hK
theorem WE{v:Nat}{a d:Int}(o:Own h0 h (j7 a3 s0 hp r g.n fr to av pv lv bv cv ev F st T))(HP:Vw aG 1 h pv pl)(hl:pl=[]\/g.n=pl.length)(k:g.n<=16777216)(inv:dy g.ag g.n (cQ pl) B st)(hB:B<=aI)(hv:v<g.n)(l:0<=d)(hd:d<=aI)
  (hK:∀F' h',Own h0 h' (j7 a3 s0 hp r g.n fr to av pv lv bv cv ev F' (st.reach (cQ pl) v a d) T)->K (.tuple #[]) h'):ah Tryz.prog Ah [ptr s0,I v,I d,I a] h K:=by
 refine aK (adD _ _ _ _ ?_);unfold Rk;simp only[bz,aQ,Nat.zero_add];refine o.load 1 rfl rfl ?_;refine ajy (o.get 0 rfl) HP (by rcases hl with h|h;exact .inl h;exact .inr (by omega)) ?_;refine o.load 1 rfl rfl (TR o 2 rfl ?_);simp only[b9,bZ];refine o.load 1 rfl rfl ?_;have i:v<(jX g.n st.ord).length:=by rw[Vc];exact hv
 refine(o.vw 5 rfl).dH (e:=λx:Bool=>.bool x) (λ_=>rfl) i ?_;rw[BP hv,bg];have hf:aI=72057594037927936:=rfl;refine⟨λhc=> ?_,λhc=> ?_⟩
 ·have e:st.reach (cQ pl) v a d=st:=by unfold SS.reach;rw[if_pos (.inl hc)]
  rw[e]at hK;exact hK F h o
 rw[c8,bg];refine⟨λhp'=> ?_,λhp'=> ?_⟩
 ·have e:st.reach (cQ pl) v a d=st:=by unfold SS.reach;rw[if_pos (.inr (by omega))]
  rw[e]at hK;exact hK F h o
 have hlo:=ahw (pl:=pl) (v:=v);have hno:¬(v∈st.ord\/aI<=cQ pl v):=by rintro(h|h);exact hc h;omega
 have m:=inv.lo v hv;have hlen:=inv.aht;cases hk:lq st.hp v with
 | some was=>
  simp only[Option.isSome_some,bq];refine o.load 1 rfl rfl ((o.vw 3 rfl).cV (by rw[inv.ll];exact hv) ?_);rw[gZ,c8,bg];refine⟨λhle=> ?_,λhgt=> ?_⟩
  ·have e:st.reach (cQ pl) v a d=st:=by unfold SS.reach;rw[if_neg hno,hk];exact if_pos hle
   rw[e]at hK;exact hK F h o
  ·have e:st.reach (cQ pl) v a d={st with hp:=((v:Int),d+cQ pl v)::st.hp.erase ((v:Int),was),lab:=st.lab.set v d,dx:=st.dx.set v a}:=by
    unfold SS.reach;rw[if_neg hno,hk];exact if_neg hgt
   rw[e]at hK;unfold A7;rw[bq];simp only[bz,aQ,Nat.zero_add];refine o.load 1 rfl rfl ?_;rw[bt,bG (by omega) (by omega)];obtain⟨u,e1,_,_,j,_⟩:=inv.cr _ (pZ hk);have e1:v=u:=by simp at e1;omega
   subst e1;dsimp only at j;refine Bt o 2 rfl (pZ hk) (by omega) λF' h5 b=> ?_;unfold A6;simp only[bz,aQ,Nat.zero_add];refine b.load 1 rfl rfl (b.load 1 rfl rfl ?_);refine b.iu (z:=d) 3 rfl (by rw[inv.ll];exact hv) λh6 c=> ?_;refine c.iu (z:=a) 4 rfl (by rw[inv.bl];exact hv) λh7 f=> ?_;exact hK F' h7 f
 | none=>
  have e:st.reach (cQ pl) v a d={st with hp:=((v:Int),d+cQ pl v)::st.hp,lab:=st.lab.set v d,dx:=st.dx.set v a}:=by
   unfold SS.reach;rw[if_neg hno,hk]
  rw[e]at hK;simp only[Option.isSome_none,aL];unfold A7;rw[aL];simp only[bz,aQ,Nat.zero_add];refine o.load 1 rfl rfl ?_;rw[bt,bG (by omega) (by omega)];refine xB o 2 rfl (by omega) (pY.1 hk) hv λF' h5 b=> ?_;unfold A6;simp only[bz,aQ,Nat.zero_add];refine b.load 1 rfl rfl (b.load 1 rfl rfl ?_);refine b.iu (z:=d) 3 rfl (by rw[inv.ll];exact hv) λh6 c=> ?_;refine c.iu (z:=a) 4 rfl (by rw[inv.bl];exact hv) λh7 f=> ?_;exact hK F' h7 f
theorem ajA{l:List A}{p:Nat->Int}{mk:Nat->Bool}{v:Nat}{s:SS}{ids:List Nat}{i:Nat}(hi:i<ids.length):s.scan l p mk v (ids.take (i+1))=SS.look l p mk v (s.scan l p mk v (ids.take i)) ids[i]:=by
 unfold SS.scan;rw[List.take_succ_eq_append_getElem hi,List.foldl_append];rfl
theorem ajB{v:Nat}(hR:g.Right)(o:Own h0 h (j7 a3 s0 hp r g.n fr to av pv lv bv cv ev F st T))(hN:∀h',Ext h0 h'->bJ h' r g)(HP:∀h',Ext h0 h'->Vw aG 1 h' pv pl)(HA:∀h',Ext h0 h'->Vw dP 1 h' av al)(hl:pl=[]\/g.n=pl.length)(hla:al=[]\/g.ag.length=al.length)
  (inv:dy g.ag g.n (cQ pl) B st) (hB:B<=aI) (hv:v<g.n) (k:v∈st.ord) (A:aF st.lab v+W<=B) (Q:st.cK.length+g.ag.length<2^40)
  (hK:∀F' ev' h',Own h0 h' (j7 a3 s0 hp r g.n fr to av pv lv bv cv ev' F' (st.scan g.ag (cQ pl) (eV al) v (g.out v)) T)->K (.tuple #[]) h'):ah Tryz.prog EW [ptr s0,I v] h K:=by
 refine aK (adF _ _ ?_);unfold Rn;have C:=hR.most;have R:=hR.many;simp only[bz,aQ,Nat.zero_add];refine o.load 1 rfl rfl ?_;refine TF o hR (hN _ o.ext) λvl h1 o1=> ?_;rw[if_pos (by omega),Int.toNat_natCast]at o1;refine(o1.vw 0 rfl).len ?_;have m:∀i∈g.out v,i<g.ag.length/\(aD g.ag i).f=v:=(ru hR).1 v hv;have S:(g.out v).length<=g.ag.length:=rR;have hh:∀a∈g.ag,a.t<g.n/\(a.w:Int)<=W:=Ko hR;have facts:∀i,dy g.ag g.n (cQ pl) B (st.scan g.ag (cQ pl) (eV al) v ((g.out v).take i))/\(st.scan g.ag (cQ pl) (eV al) v ((g.out v).take i)).ord=st.ord/\∀u∈st.ord,aF (st.scan g.ag (cQ pl) (eV al) v ((g.out v).take i)).lab u=aF st.lab u:=λi=>
  SS.BO hh inv (λj hj=>m j (List.mem_of_mem_take hj)) k A
 have o1:Own h0 h1 (aA aV 1 au vl (g.out v)::j7 a3 s0 hp r g.n fr to av pv lv bv cv ev F (st.scan g.ag (cQ pl) (eV al) v ((g.out v).take 0)) T):=o1;refine cg (g.out v).length (λi x h'=>x.1=I i/\∃F' ev',(st.scan g.ag (cQ pl) (eV al) v ((g.out v).take i)).cK.length<=st.cK.length+i/\Own h0 h' (aA aV 1 au vl (g.out v)::j7 a3 s0 hp r g.n fr to av pv lv bv cv ev' F' (st.scan g.ag (cQ pl) (eV al) v ((g.out v).take i)) T)) ⟨rfl,F,ev,Nat.le_refl _,o1⟩ ?_;clear o1 o;rintro i ⟨x,⟨⟩⟩ h' Z hi ⟨hx,F',ev',D,o'⟩ hZ;dsimp only at hx hZ ⊢;subst hx;unfold Rm;simp only[bu,bg];refine⟨λhlt=> ?_,λhge=> ?_⟩
 ·have hlt:i<(g.out v).length:=by omega
  obtain⟨inv',E,q⟩:=facts i;have hsc:=ajA (l:=g.ag) (p:=cQ pl) (mk:=eV al) (v:=v) (s:=st) hlt;generalize U:st.scan g.ag (cQ pl) (eV al) v ((g.out v).take i)=st' at o' inv' E q D hsc;obtain⟨hil,hif⟩:=m _ (List.getElem_mem hlt);refine(o'.vw 0 rfl).dH (e:=λx:Nat=>I x) (λ_=>rfl) hlt ?_;simp only[bz,aQ,Nat.zero_add];refine o'.load 2 rfl rfl ?_;refine ajz (o'.get 1 rfl) (HA _ o'.ext) (by rcases hla with h|h;exact .inl h;exact .inr (by omega)) ?_;unfold SS.look at hsc;cases hm:eV al (g.out v)[i]with
  |false=>
   rw[hm]at hsc;rw[bH,Bool.not_false,bq];unfold A8;rw[bt,wI i (by omega)];refine hZ (I (i+1:Nat),()) h' hlt ⟨rfl,F',ev',?_,?_⟩
   ·rw[hsc];simp only[Bool.false_eq_true,if_false];omega
   ·rw[hsc];exact o'
  | true=>
   rw[hm]at hsc;simp only[if_true]at hsc;generalize (g.out v)[i]=j at hil hif hsc;rw[bH,Bool.not_true,aL];refine o'.load 2 rfl rfl ?_;refine cG (cs':=dA ⟨1,0,j,0⟩) (by intro p hp;simp at hp;rcases hp with rfl|rfl<;>rfl) rfl rfl ?_;refine o'.fF 7 (⟨1,0,j,0⟩:Ev) rfl rfl (bW rfl) n7 uB rfl (by decide) (by omega) λc h2 o2=> ?_;have y:=o2.vw 7 rfl;refine o2.bf 2 (cs':=uO r hp a3 lv bv cv c) rfl rfl rfl y.one y.plain λh3 d=> ?_;refine d.load 2 rfl rfl (nY (hN _ d.ext) hil λh4 H=> ?_);simp only[b9,bZ];have J:=d.more H;have ea:aD g.ag j=g.ag[j]:=by simp[aD,hil]
   have he:=hh _ (List.getElem_mem hil);rw[ea]at hsc hif;generalize g.ag[j]=a at hsc he hif;refine J.box λM h5 N=>N.st 0 rfl rfl rfl rfl rfl (fS _) λh6 b=> ?_;refine b.load 0 rfl rfl (b.load 3 rfl rfl ((b.vw 5 rfl).cV (by rw[inv'.ll];exact hv) (b.load 0 rfl rfl ?_)));have V:=q v k;have hb:=inv'.lo v hv;have hw0:W=2147483647:=rfl;have hf:aI=72057594037927936:=rfl;rw[gZ,bt,bG (by omega) (by omega)];have z:Own h0 h6 (j7 a3 s0 hp r g.n fr to av pv lv bv cv c F' (st'.ev ⟨1,0,j,0⟩) (aj M (dS a) cC::aA aV 1 au vl (g.out v)::T)):=by
    have :=b.front 9 [2,3,4,5,6,7,8,0,1] (by decide) (by decide);exact this
   refine WE z (HP _ z.ext) hl C (inv'.ev _) hB he.1 (by omega) (by omega) λO h8 P=> ?_;unfold A8;rw[bt,wI i (by omega)];refine hZ (I (i+1:Nat),()) h8 hlt ⟨rfl,O,c,?_,?_⟩
   ·rw[hsc,SS.qA.2];show(st'.cK++ [_]).length<=_;rw[List.length_append,List.length_singleton];omega
   ·rw[hsc];exact P.front 9 [8,0,1,2,3,4,5,6] (by decide) (by decide)
 ·have :(g.out v).take i=g.out v:=List.take_of_length_le (by omega);rw[this]at o';exact hK F' ev' h' o'.tail
end
open Go Go.Mh
section
variable{h0 h:aa}{L:List aM}{K:KT}{g:G}{r a3 s0 hp fr to:Nat}{av pv lv bv cv ev:Value}{al:List Bool}{pl:List Int}{F:Nat->Prop}{st:SS}{T:List aM}{B:Int}
theorem ajC{fv:Value}{d:List aM}{σ:Type}{Q:σ->aa->Prop}{s0:σ}{next :σ->List Value->σ->Prop}{stop:σ->Prop}(o:Own h0 h (L++d))(hI:zf Tryz.prog fv Q d s0 next stop)(g:σ->List Int)(g0:g s0=[])
  (hf:∀s x s',next s x s'->∃a,x=[I a]/\g s'=g s++ [a]/\(g s').length<2^40) (hQ:∀s(b:List aM) h',Own h0 h' (b++L)->Q s h')
  (hK:∀w h' s,stop s->Own h0 h' (aA aG 1 au w (g s)::L)->K w h'):ah Tryz.prog qa [fv] h K:=by
 refine aK (FO _ ?_);unfold AF;refine aK (FY _ _ ?_);unfold AP;refine o.box λs2 h1 o1=> ?_;have o2:Own h0 h1 ((aA aG 1 au (.slice none 0 0) (g s0)::aj s2 [.slice none 0 0] bR::L)++d):=by
  rw[g0];exact Own.en (enc:=aG) (n:=1) (T:=au) o1
 refine o2.JU hI (λs x s' hn=>by obtain⟨a,rfl,_⟩:=hf s x s' hn;rfl)
  (λs b=>∃w,b=aA aG 1 au w (g s)::aj s2 [w] bR::L) (λ_=>False) (λ_ _=>False) ⟨_,rfl⟩ ?_ ?_ ?_ (λ_ _ h=>h.elim) (λ_ _ _ h=>h.elim)
 ·rintro s b h' ⟨w,rfl⟩ o';exact hQ s [_,_] h' o'
 ·rintro M s x s' b Pr h' R hn ⟨w,rfl⟩ o' hN _ _;obtain⟨a,rfl,hg,f⟩:=hf s x s' hn;dsimp only[fk];unfold AO;refine o'.begin 0 rfl λh4 c=> ?_;have c:Own h0 h4 (b6 _ _::bX _::aA aG 1 au w (g s)::aj s2 [w] bR::(L++Pr)):=c;refine c.load 3 rfl rfl ?_;rw[hg,List.length_append]at f;refine c.fF 2 a rfl rfl (bW rfl) (λ_=>rfl) ja rfl (by decide) (by simp at f;omega) λw' h5 i=> ?_;have hw':=i.vw 2 rfl;refine i.bf 3 (cs':=[w']) rfl rfl rfl hw'.one hw'.plain λh6 e=> ?_;refine hN _ h6 ⟨w',rfl⟩ ?_;rw[hg];exact e
 ·rintro s h' b hst ⟨w,rfl⟩ o';refine o'.load 2 rfl rfl (o'.iZ 0 rfl λh6 e=> ?_);exact hK w h6 s hst (e.tail.erase 1)
theorem ajD{s2 v3 v:Nat}{cs:List Nat}{T1:TypeId}(hR:g.Right)(hc:kQ g.ag st.dx v cs):
  zf Tryz.prog (.func (.func Fi) #[] #[ptr s2,ptr v3]) (σ:=Nat)
   (λ_ h=>h[s2]? =some (.cells #[ptr s0] T1 (0,0))/\h[s0]? =some (.cells (uO r hp a3 lv bv cv ev).toArray qk (0,0))/\Vw aG 1 h bv st.dx/\bJ h r g) [aj v3 [I v] au] 0
   (λi x i'=>(∃hi:i<cs.length,x=[I cs[i]])/\i'=i+1) (λi=>i=cs.length):=by
 rintro yv h0 h e K J E ⟨l,rfl⟩ o q hQ hY hK;refine iJ (l:=[dm l,ptr s2,ptr v3]) rfl (aep _ _ _ ?_);unfold Sv;have vx:∀{e:List aM}{h':aa}{u:Int}{K:Value->Prop},Own h0 h' (e++ [aj v3 [I u] au])->K (I u)->af h' (ptr v3) K:=λ{e h' u K} o hk=>o.load e.length (by rw[List.getElem?_append_right (Nat.le_refl _),Nat.sub_self];rfl) rfl hk;obtain⟨q1,q2,k,_⟩:=hQ _ _ _ q o.left;have c1:hcell h ⟨s2,0,none⟩=some (ptr s0):=aY q1 rfl;have c2:hcell h ⟨s0,3,none⟩=some bv:=aY q2 rfl;refine bC rfl c1 ?_;simp only[bz,aQ,Nat.zero_add];refine bC rfl c2 (vx o ?_);obtain⟨z,hz⟩:∃z,st.dx[v]? =some z:=by
  cases cs with
  |nil=>exact⟨_,hc⟩
  |cons a r=>exact⟨_,hc.1⟩
 refine k.vP hz ?_;refine cg cs.length (λj x h'=>∃(u:Nat)(z:Int)(n:List aM),kQ g.ag st.dx u (cs.drop j)/\st.dx[u]? =some z/\x.1=I z/\J j n/\Own h0 h' (n++ [aj v3 [I u] au])) ⟨v,z,e,hc,hz,rfl,q,o⟩ ?_;clear q1 q2 k c1 c2 hz o q hc z;rintro j ⟨x,⟨⟩⟩ h' Z hj ⟨u,z,n,hch,hz,hx,hjj,o'⟩ hZ;dsimp only at hx hZ ⊢;subst hx;unfold Su;rcases Nat.lt_or_ge j cs.length with hlt|hge
 ·rw[List.drop_eq_getElem_cons hlt]at hch;obtain⟨hc1,t,c⟩:=hch;have s:z=(cs[j]:Int):=by rw[hz]at hc1;injection hc1
  subst s;rw[c8,decide_eq_true (by omega),bq];refine hY j _ (j+1) n [aj v3 [I u] au] h' _ ⟨⟨hlt,rfl⟩,rfl⟩ hjj o' (λm h2 hj' o2=> ?_) λm h2 he o2=> ?_
  ·rw[bq];obtain⟨q1,q2,k,w⟩:=hQ _ _ _ hj' o2.left;have c1:hcell h2 ⟨s2,0,none⟩=some (ptr s0):=aY q1 rfl;have c2:hcell h2 ⟨s0,0,none⟩=some (ptr r):=aY q2 rfl;refine bC rfl c1 ?_;simp only[bz,aQ,Nat.zero_add];refine bC rfl c2 (nY w t λh3 y=> ?_);simp only[b9,bZ];have A:=o2.more y;have ea:aD g.ag cs[j]=g.ag[cs[j]]:=by simp[aD,t]
   rw[ea]at c;generalize g.ag[cs[j]]=a at c;refine A.box λC h4 D=>D.st 0 rfl rfl rfl rfl rfl (fS _) λh5 p=>p.load 0 rfl rfl ?_;have p:Own h0 h5 ((aj C (dS a) cC::m)++ [aj v3 [I u] au]):=p;refine p.bf (m.length+1) (cs':=[I a.f]) (by rw[List.getElem?_append_right (by simp),List.length_cons,Nat.sub_self];rfl) rfl rfl rfl rfl λh6 d=> ?_;have d:Own h0 h6 (m++ [aj v3 [I a.f] au]):=by
    rw[List.set_append_right _ _ (by simp),List.length_cons,Nat.sub_self]at d;exact d.tail
   obtain⟨q1,q2,k,w⟩:=hQ _ _ _ hj' d.left;have c1:hcell h6 ⟨s2,0,none⟩=some (ptr s0):=aY q1 rfl;have c2:hcell h6 ⟨s0,3,none⟩=some bv:=aY q2 rfl;refine bC rfl c1 (bC rfl c2 (vx d ?_));obtain⟨z,hz⟩:∃z,st.dx[a.f]? =some z:=by
    cases hd:cs.drop (j+1)with
    |nil=>rw[hd]at c;exact⟨_,c⟩
    |cons b r=>rw[hd]at c;exact⟨_,c.1⟩
   refine k.vP hz ?_;exact hZ (I z,()) h6 hlt ⟨a.f,z,m,c,hz,rfl,hj',d⟩
  ·rw[aL];exact hK _ _ (.inr he) o2.left
 ·have hj':j=cs.length:=by omega
  subst hj';rw[List.drop_length]at hch;have s:z= -1:=by
   have :st.dx[u]? =some (-1):=hch;rw[hz]at this;injection this
  subst s;rw[c8,decide_eq_false (by omega),aL];exact hK _ _ (.inl ⟨_,rfl,hjj⟩) o'.left
def yw(f:SS×Bool)(to:Nat):Int:=if f.2 then aF f.1.lab to else aI
def WG(h:aa)(g:G)(f:SS×Bool)(to:Nat)(K:KT):Prop:=
 ∀av ev cs h',(f.2=true->kQ g.ag f.1.dx to cs)->(f.2=false->cs=[])->Own h h' [aA aG 1 au av (nI cs).reverse,aA dA 4 eO ev f.1.cK]->K (.agg #[I (yw f to),av,ev]) h'
theorem ajE {fin:SS×Bool} (hR:g.Right) (o:Own h0 h (j7 a3 s0 hp r g.n fr to av pv lv bv cv aN F (SS.zero g.n) [])) (hN:∀h',Ext h0 h'->bJ h' r g) (HP:∀h',Ext h0 h'->Vw aG 1 h' pv pl) (HA:∀h',Ext h0 h'->Vw dP 1 h' av al) (hl:pl=[]\/g.n=pl.length) (hla:al=[]\/g.ag.length=al.length)
  (ax:(g.n+1)*(g.ag.length+1)<2^39) (hfr:fr<g.n) (hto:to<g.n) (E:SS.run g.ag (cQ pl) (eV al) g.out to (g.n+1) (SS.start (cQ pl) g.n fr)=fin) (hK:WG h0 g fin to K):ah Tryz.prog Em [ptr s0,I fr,I to] h K:=by
 refine aK (acE _ _ _ ?_);unfold Pu;have Y:=hR.most;have ay:=hR.many;have hw0:W=2147483647:=rfl;have hf:aI=72057594037927936:=rfl;refine o.box λt6 h1 o1=> ?_;have o1:Own h0 h1 (j7 a3 s0 hp r g.n fr to av pv lv bv cv aN F (SS.zero g.n) [aj t6 [I 0,aN,aN] dJ]):=o1.mT;refine WE (B:=0) o1 (HP _ o1.ext) hl Y dy.zero (by omega) hfr (by omega) (by omega) λH h2 o2=> ?_;have o2:Own h0 h2 (j7 a3 s0 hp r g.n fr to av pv lv bv cv aN H (SS.start (cQ pl) g.n fr) [aj t6 [I 0,aN,aN] dJ]):=o2;have hs0:(SS.start (cQ pl) g.n fr).ord=[]:=SS.qA.1;have J:(SS.start (cQ pl) g.n fr).cK=[]:=SS.qA.2;have M:dy g.ag g.n (cQ pl) 0 (SS.start (cQ pl) g.n fr):=dy.zero.reach hfr (by omega) (by omega) (.inl rfl);refine pW (k0:=g.n+1-(SS.start (cQ pl) g.n fr).ord.length) (λk _ h'=>∃(st:SS)(F:Nat->Prop)(ev:Value),k=g.n+1-st.ord.length/\SS.run g.ag (cQ pl) (eV al) g.out to (g.n+1-st.ord.length) st=fin/\dy g.ag g.n (cQ pl) (st.ord.length*W) st/\st.cK.length<=st.ord.length*(g.ag.length+1)/\
  Own h0 h' (j7 a3 s0 hp r g.n fr to av pv lv bv cv ev F st [aj t6 [I 0,aN,aN] dJ])) ⟨_,H,aN,rfl,by rw[hs0];exact E,by rw[hs0];simpa using M,by rw[J];simp,o2⟩ ?_
 clear o o2 E M hs0 J;rintro k ⟨⟩ h' Z ⟨st,F,ev,hk,hrun,inv,az,o⟩ hZ;unfold Pt;simp only[bz,aQ,Nat.zero_add];have aB:=inv.len;have aC:st.cK.length+g.ag.length+1<2^40:=by
  have :=Nat.mul_le_mul_right (g.ag.length+1) (show st.ord.length<=g.n+1 by omega);have h2:=Nat.mul_le_mul_right (g.ag.length+1) (show 1<=g.n+1 by omega);omega
 refine o.load 1 rfl rfl (xC o 2 rfl (λhlz h3 c=> ?_) λp hlp v h3 c=> ?_)
 ·simp only[b9,bZ,k8];rw[bH,Bool.not_false,bq];have aa:fin=(st,false):=by
   rw[<-hrun];cases g.n+1-st.ord.length with
   |zero=>rfl
   |succ k=>simp only[SS.run,hlz]
  subst aa;have hv:=c.vw 6 rfl;refine c.load 1 rfl rfl ?_;refine cG (cs':=[I aI,aN,ev]) ?_ rfl rfl ?_
  ·intro p hp;simp at hp;rcases hp with rfl|rfl
   ·rfl
   ·exact hv.one
  refine c.st (l:=[I aI,aN,ev]) (cs':=[I aI,aN,ev]) 7 rfl rfl rfl rfl rfl ?_ λh4 d=> ?_
  ·intro u hu;simp at hu;rcases hu with rfl|rfl|rfl
   ·rfl
   ·rfl
   ·exact hv.plain
  ·refine d.bN 7 rfl rfl rfl ?_;refine hK aN ev [] h4 (λh=>by cases h) (λ_=>rfl) ?_;exact Own.en (enc:=aG) (n:=1) (T:=au) (d.bh [6] (by decide))
 ·simp only[b9,bZ,k8];rw[bH,Bool.not_true,aL];have hm:=(iw hlp).1;obtain⟨u,hu,hun,hno,hkey,hpf,hby⟩:=inv.cr p hm;obtain⟨aE,key⟩:=p;dsimp only at hu hkey c ⊢;subst hu;have hroom:=inv.room (by intro e;rw[e]at hm;cases hm);have aH:=inv.lo u hun;refine c.load 1 rfl rfl ?_;refine c.setAt (a:=true) 5 rfl Iv (Iw _) (by rw[Vc];exact hun) rfl λh4 d=> ?_;refine d.load 1 rfl rfl (d.load 1 rfl rfl ((d.vw 3 rfl).cV (by rw[inv.ll];exact hun) ?_));rw[gZ];refine cG (cs':=dA ⟨0,0,u,aF st.lab u⟩) (by intro p hp;simp at hp;rcases hp with rfl|rfl|rfl<;>rfl) rfl rfl ?_;refine d.fF 6 (⟨0,0,u,aF st.lab u⟩:Ev) rfl rfl (bW rfl) n7 uB rfl (by decide) (by omega) λb h5 N=> ?_;have t:=N.vw 6 rfl;refine N.bf 1 (cs':=uO r hp a3 lv bv cv b) rfl rfl rfl t.one t.plain λh6 y=> ?_;obtain⟨bf,j⟩:∃bf,bf=st.pop u key:=⟨_,rfl⟩;have y:Own h0 h6 (j7 a3 s0 hp r g.n fr to av pv lv bv cv b v bf [aj t6 [I 0,aN,aN] dJ]):=by
   subst j;show Own h0 h6 (_::_::_::_::_::aA dP 1 eA cv (jX g.n (st.ord++ [u]))::_);rw[<-ahu];exact y
  have inv1:dy g.ag g.n (cQ pl) (st.ord.length*W) bf:=by subst j;exact inv.lu hm
  have A:bf.ord=st.ord++ [u]:=by subst j;rfl
  have O:bf.lab=st.lab:=by subst j;rfl
  have aJ:bf.cK.length=st.cK.length+1:=by subst j;simp[SS.pop]
  rw[show g.n+1-st.ord.length=(g.n-st.ord.length)+1 by omega]at hrun;simp only[SS.run,hlp,Int.toNat_natCast]at hrun;rw[<-j]at hrun;rw[cF];by_cases P:u=to
  ·subst P;rw[beq_self_eq_true,bq];rw[if_pos rfl]at hrun;subst hrun;obtain⟨cs,hch,aO⟩:=inv1.chain st.ord.length st.ord [] u (Nat.le_refl _) A;refine aK (adE _ _ ?_);unfold Rl;refine y.box λs2 h7 C=>C.box λv3 h8 af=> ?_;have ai:Own h0 h8 ((aj s2 [ptr s0] wY::j7 a3 s0 hp r g.n fr u av pv lv bv cv b v bf [aj t6 [I 0,aN,aN] dJ])++ [aj v3 [I u] au]):=af.mT;refine ajC ai (ajD (r:=r) (hp:=hp) (a3:=a3) (s0:=s0) (s2:=s2) (v3:=v3) (lv:=lv) (bv:=bv) (cv:=cv) (ev:=b) (st:=bf) (T1:=wY) hR hch) (λs=>(nI cs).take s) rfl (λs x s'=> ?_) (λs z h' o'=> ?_) λw h9 s hs Q=> ?_
   ·rintro⟨⟨hi,rfl⟩,rfl⟩;refine⟨(cs[s]:Int),rfl,?_,?_⟩
    ·rw[List.take_succ_eq_append_getElem (by rw[dI];exact hi)];simp[nI]
    ·rw[List.length_take,dI];omega
   ·have q:∀(i:Nat)(R:aM),(aj s2 [ptr s0] wY::j7 a3 s0 hp r g.n fr u av pv lv bv cv b v bf [aj t6 [I 0,aN,aN] dJ])[i]? =some R->(z++(aj s2 [ptr s0] wY::j7 a3 s0 hp r g.n fr u av pv lv bv cv b v bf [aj t6 [I 0,aN,aN] dJ]))[z.length+i]? =some R:=λi R hi=>by
     rw[List.getElem?_append_right (by omega),show z.length+i-z.length=i by omega];exact hi
    exact⟨o'.get _ (q 0 _ rfl),o'.get _ (q 2 _ rfl),o'.vw _ (q 5 _ rfl),hN _ o'.ext⟩
   ·subst hs;rw[List.take_of_length_le (by rw[dI];exact Nat.le_refl _)]at Q;refine WA Q 0 rfl (by rw[dI];omega) λh11 m=> ?_;have t:=m.vw 8 rfl;have S:=m.vw 0 rfl;refine m.load 3 rfl rfl ((m.vw 5 rfl).cV (by rw[O,inv.ll];exact hun) (m.load 3 rfl rfl ?_));rw[gZ];refine cG (cs':=[I (aF bf.lab u),w,b]) ?_ rfl rfl ?_
    ·intro p hp;simp at hp;rcases hp with rfl|rfl|rfl
     ·rfl
     ·exact S.one
     ·exact t.one
    refine m.st (l:=[I (aF bf.lab u),w,b]) (cs':=[I (aF bf.lab u),w,b]) 9 rfl rfl rfl rfl rfl ?_ λh12 U=> ?_
    ·intro u hu;simp at hu;rcases hu with rfl|rfl|rfl
     ·rfl
     ·exact S.plain
     ·exact t.plain
    ·refine U.bN 9 rfl rfl rfl ?_;exact hK w b cs h12 (λ_=>hch) (λh=>by cases h) (U.bh [0,8] (by decide))
  ·rw [show((u:Int)==(to:Int))=false by simp;omega,aL];rw[if_neg P]at hrun;have hB:(st.ord.length:Int)*W+W<=aI:=by
    have h1:(st.ord.length:Int)+1<=16777216:=by omega
    have :=Int.mul_le_mul_of_nonneg_right h1 (show(0:Int)<=W by decide);rw[Int.add_mul,Int.one_mul]at this;omega
   have inv1':=inv1.mono (B':=st.ord.length*W+W) (by omega);have V:u∈bf.ord:=by rw[A];simp
   have ak:∀i∈g.out u,i<g.ag.length/\(aD g.ag i).f=u:=(ru hR).1 u hun;have X:aF bf.lab u+W<=st.ord.length*W+W:=by rw[O];omega
   obtain⟨f1,f2,f3⟩:=SS.BO (mk:=eV al) (Ko hR) inv1' ak V X;refine ajB hR y hN HP HA hl hla inv1' hB hun V X (by omega) λan aq h7 C=> ?_
   have hel:(bf.scan g.ag (cQ pl) (eV al) u (g.out u)).cK.length<=bf.cK.length+(g.out u).length:=by
    have :∀(ids:List Nat)(s:SS),(s.scan g.ag (cQ pl) (eV al) u ids).cK.length<=s.cK.length+ids.length:=by
     intro ids
     induction ids with
     |nil=>intro s;exact Nat.le_refl _
     | cons i ids ih=>
      intro s;have h1:=ih (SS.look g.ag (cQ pl) (eV al) u s i);have h2:(SS.look g.ag (cQ pl) (eV al) u s i).cK.length<=s.cK.length+1:=by
       unfold SS.look;split
       ·rw[SS.qA.2];show(s.cK++ [_]).length<=_;simp
       ·omega
      show((SS.look g.ag (cQ pl) (eV al) u s i).scan g.ag (cQ pl) (eV al) u ids).cK.length<=_;rw[List.length_cons];omega
    exact this _ _
   have aP:(g.out u).length<=g.ag.length:=rR;have D:(bf.scan g.ag (cQ pl) (eV al) u (g.out u)).ord.length=st.ord.length+1:=by rw[f2,A];simp
   refine hZ _ h7 _ (by rw[hk];omega) ⟨bf.scan g.ag (cQ pl) (eV al) u (g.out u),an,aq,rfl,?_,?_,?_,C⟩
   ·rw[D,show g.n+1-(st.ord.length+1)=g.n-st.ord.length by omega];exact hrun
   ·refine f1.mono ?_;rw[D,Int.natCast_add,Int.add_mul];show _<=_+1*W;omega
   ·rw[D,Nat.add_mul];omega
end
open Go Go.Mh
section
variable{h0 h:aa}{L:List aM}{K:KT}{g:G}{r fr to:Nat}{av pv:Value}{al:List Bool}{pl:List Int}
theorem ajF(hR:g.Right)(hN:bJ h r g)
  (hap:Mh.plainCell av=true) (f:Mh.plainCell pv=true)
  (hK:∀a3 s0 hp lv bv cv F h',Own h h' (j7 a3 s0 hp r g.n fr to av pv lv bv cv aN F (SS.zero g.n) [])->K (ptr s0) h'):ah Tryz.prog El [ptr r,.agg (gW fr to av pv).toArray] h K:=by
 refine aK (acD _ _ ?_);unfold Pq;have d:=hR.most;refine(Own.start h).box λa3 h1 o=> ?_;have o:Own h h1 [aj a3 (gW fr to av pv) iM]:=o;refine gh (λy h'=>∃s0 hp lv cv F,y=(ptr s0,())/\Own h h' [aj s0 [ptr r,ptr hp,lv,aN,cv,.nilFunc,.nilFunc,aN] qk,aA aG 1 bY lv (List.replicate g.n 0),aA dP 1 eA cv (List.replicate g.n false),fP F hp [] g.n,aj a3 (gW fr to av pv) iM]) (λJ hJ=> ?_) ?_
 ·refine dF (hN.more o.ext) (Bs o λF hp h2 o=>dF (hN.more o.ext) ?_);have fin:∀(lv cv:Value)(h':aa),lv.cells= #[lv]->cv.cells= #[cv]->Own h h' [aA aG 1 bY lv (List.replicate g.n 0),aA dP 1 eA cv (List.replicate g.n false),fP F hp [] g.n,aj a3 (gW fr to av pv) iM]->
    aP [(.pointer none),(.pointer none),(.slice none 0 0),(.slice none 0 0),(.slice none 0 0),.nilFunc,.nilFunc,(.slice none 0 0)] [(0,1,ptr r),(1,1,ptr hp),(2,1,lv),(4,1,cv)] λt16=>aB qk t16 h' λt17 h_8=>J (t17,()) h_8:=λlv cv h' h1 h2 o=>by
   refine cG (cs':=[ptr r,ptr hp,lv,aN,cv,.nilFunc,.nilFunc,aN]) ?_ rfl rfl ?_
   ·intro p hp;simp at hp;rcases hp with rfl|rfl|rfl|rfl
    ·rfl
    ·rfl
    ·exact h1
    ·exact h2
   exact o.box λs0 h8 o=>hJ _ _ ⟨s0,hp,lv,cv,F,rfl,o⟩
  refine⟨?_,?_⟩
  ·refine o.make (enc:=aG) (n:=1) (a:=0) rfl (by omega) (by omega) λlv h3 o=>dF (hN.more o.ext) ?_;refine o.make (enc:=dP) (n:=1) (a:=false) rfl (by omega) (by omega) λcv h4 o=> ?_;exact fin lv cv h4 (o.vw 1 rfl).one (o.vw 0 rfl).one o.swap
  ·refine dF (hN.more o.ext) ⟨?_,?_⟩
   ·refine o.make (enc:=aG) (n:=1) (a:=0) rfl (by omega) (by omega) λlv h3 o=> ?_;refine o.make (enc:=dP) (n:=1) (a:=false) rfl (by omega) (by omega) λcv h4 o=> ?_;exact fin lv cv h4 (o.vw 1 rfl).one (o.vw 0 rfl).one o.swap
   ·refine o.make (enc:=dP) (n:=1) (a:=false) rfl (by omega) (by omega) λcv h3 o=> ?_;refine o.make (enc:=aG) (n:=1) (a:=0) rfl (by omega) (by omega) λlv h4 o=> ?_;exact fin lv cv h4 (o.vw 0 rfl).one (o.vw 1 rfl).one o
 ·rintro⟨y,⟨⟩⟩ i ⟨s0,hp,lv,cv,F,e,o⟩;injection e with e _;dsimp only;subst e;unfold Pp;refine o.build (enc:=aG) (n:=1) [-1] rfl (bW rfl) rfl λw j o=> ?_;refine dF (hN.more o.ext) ?_;refine Tu o (o.vw 0 rfl) d λbv k o=> ?_;have b:=o.vw 0 rfl;simp only[bz,aQ,Nat.zero_add];refine o.bf 2 (cs':=[ptr r,ptr hp,lv,bv,cv,.nilFunc,.nilFunc,aN]) rfl rfl rfl b.one b.plain λl o=> ?_;refine o.bf 2 (cs':=[ptr r,ptr hp,lv,bv,cv,.func (.func wN) #[] #[ptr a3],.nilFunc,aN]) rfl rfl rfl rfl rfl λm o=> ?_;refine o.bf 2 (cs':=uO r hp a3 lv bv cv aN) rfl rfl rfl rfl rfl λc o=> ?_;refine hK a3 s0 hp lv bv cv F c ?_;have e:=o.bh [6,2,5,3,0,4] (by decide);have o':Own h c [aj a3 (gW fr to av pv) iM,aj s0 (uO r hp a3 lv bv cv aN) qk,fP F hp [] g.n,aA aG 1 bY lv (List.replicate g.n 0),aA aG 1 au bv (List.replicate g.n (-1)),aA dP 1 eA cv (jX g.n [])]:=by
   rw[<-ahv];exact e
  exact(Own.en (enc:=dA) (n:=4) (T:=eO) o').bh [1,2,3,4,5,6,0] (by decide)
def sr(g:G)(pl:List Int)(al:List Bool)(fr to:Nat):SS×Bool:=SS.run g.ag (cQ pl) (eV al) g.out to (g.n+1) (SS.start (cQ pl) g.n fr)
theorem WH{n2 v:Nat}{T1:TypeId}(hn:h[n2]? =some (.cells #[ptr r] T1 (0,0)))(hN:bJ h r g)(hv:v<g.n)(hK:K (.bool true) h):aS Tryz.prog (.func (.func zT) #[] #[ptr n2]) [I v].toArray h K:=by
 refine bU (l:=[I v,ptr n2]) rfl (acA _ _ ?_);unfold Pm;rw[c8,decide_eq_true (by omega),bq];have c:hcell h ⟨n2,0,none⟩=some (ptr r):=aY hn rfl;refine bC rfl c (dF hN ?_);rw[bu,decide_eq_true (by omega)];exact hK
theorem ajG{n:Nat}(H:Vw dP 1 h av al)(hl:al=[]\/n=al.length)(hK:K (.bool true) h):ah Tryz.prog Ej [av,I n] h K:=by
 refine aK (acB _ _ ?_);unfold Pn;refine H.len ?_;rw[cF,iW];refine⟨λ_=>hK,λhne=>H.len ?_⟩;rw[cF];rcases hl with rfl|rfl
 ·exact absurd rfl hne
 ·rw[beq_self_eq_true];exact hK
theorem ajH{n:Nat}(H:Vw aG 1 h pv pl)(hl:pl=[]\/n=pl.length)(hK:K (.bool true) h):ah Tryz.prog Ek [pv,I n] h K:=by
 refine aK (acC _ _ ?_);unfold Po;refine H.len ?_;rw[cF,iW];refine⟨λ_=>hK,λhne=>H.len ?_⟩;rw[cF];rcases hl with rfl|rfl
 ·exact absurd rfl hne
 ·rw[beq_self_eq_true];exact hK
theorem ajI(hR:g.Right)(hN:bJ h r g)(HP:Vw aG 1 h pv pl)(HA:Vw dP 1 h av al)(hl:pl=[]\/g.n=pl.length)(hla:al=[]\/g.ag.length=al.length)
  (m:(g.n+1)*(g.ag.length+1)<2^39) (hfr:fr<g.n) (hto:to<g.n)
  (h1:fr=to->∀h',Ext h h'->K (.tuple #[.agg #[I 0,aN,aN],I 0]) h')
  (h2:fr≠to->WG h g (sr g pl al fr to) to λv h'=>K (.tuple #[v,I 0]) h'):ah Tryz.prog kI [ptr r,.agg (gW fr to av pv).toArray] h K:=by
 refine aK (abr _ _ ?_);unfold NO;refine(Own.start h).box λn2 t o1=>o1.box λa3 w o2=>o2.box λt4 h3 a=> ?_;have a:Own h h3 [aj t4 [I 0,aN,aN] dJ,aj a3 (gW fr to av pv) iM,aj n2 [ptr r] cq]:=a;refine a.load 2 rfl rfl ?_;simp only[ef,Option.isNone_some,aL];have b:=hN.more a.ext;refine gh (λy h'=>y.1=.bool false/\h'=h3) (λJ hJ=> ?_) ?_
 ·simp only[aQ,Nat.zero_add];refine a.load 1 rfl rfl (WH (a.get 2 rfl) b hfr ?_);rw[bH,Bool.not_true,aL];refine a.load 1 rfl rfl (WH (a.get 2 rfl) b hto ?_);rw[bH,Bool.not_true,aL];refine a.load 1 rfl rfl (a.load 2 rfl rfl (rQ b ⟨a.load 1 rfl rfl rfl,?_⟩));refine ajG (HA.more a.ext) hla ?_;rw[bH,Bool.not_true,aL];refine a.load 1 rfl rfl (a.load 2 rfl rfl (dF b ⟨a.load 1 rfl rfl rfl,?_⟩));refine ajH (HP.more a.ext) hl ?_;rw[bH,Bool.not_true];exact hJ _ _ ⟨rfl,rfl⟩
 ·rintro⟨y,⟨⟩⟩ h' ⟨hy,rfl⟩;dsimp only at hy ⊢;subst hy;unfold NN;rw[aL];simp only[aQ,Nat.zero_add];refine a.load 1 rfl rfl (a.load 1 rfl rfl ?_);rw[cF];by_cases e:fr=to
  ·rw[show((fr:Int)==(to:Int))=true by simp[e],bq];refine cG (cs':=[I 0,aN,aN]) (by intro p hp;cases hp) rfl rfl ?_;refine a.st (l:=[I 0,aN,aN]) (cs':=[I 0,aN,aN]) 0 rfl rfl rfl rfl rfl ?_ λh4 f=>f.bN 0 rfl rfl rfl (h1 e h4 f.ext);intro u hu;simp at hu;rcases hu with rfl|rfl<;>rfl
  ·rw[show((fr:Int)==(to:Int))=false by simp;omega,aL];refine a.load 2 rfl rfl (a.bN 1 rfl rfl rfl (a.load 1 rfl rfl (a.load 1 rfl rfl ?_)));refine ajF hR b HA.plain HP.plain λb3 s0 hp lv bv cv F h5 i=> ?_;have j:=a.frame i;refine⟨j.load 8 rfl rfl rfl,j.load 8 rfl rfl rfl,?_⟩;refine ajE hR i (λh' x=>b.more x) (λh' x=>(HP.more a.ext).more x) (λh' x=>(HA.more a.ext).more x) hl hla m hfr hto rfl λc ev cs h7 c1 c2 o=> ?_;have d:=a.frame o;have q:=d.vw 0 rfl;have s:=d.vw 1 rfl;refine d.st (l:=[I (yw (sr g pl al fr to) to),c,ev]) (cs':=[I (yw (sr g pl al fr to) to),c,ev]) 2 rfl rfl rfl rfl rfl ?_ λh9 k=>k.bN 2 rfl rfl rfl ?_
   ·intro u hu;simp at hu;rcases hu with rfl|rfl|rfl
    ·rfl
    ·exact q.plain
    ·exact s.plain
   ·exact h2 e c ev cs h9 c1 c2 (k.bh [0,1] (by decide))
end
open Go Go.Mh
section
variable{h0 h:aa}{L:List aM}{K:KT}{g:G}{x r:Nat}{tv cv fv:Value}
def uP(h:aa)(g:G)(tv:Value):Prop:=tv=.pointer none\/∃t ms,tv=ptr t/\gy h t g ms/\ms≠ []/\ms.length<=16/\∀m∈ms,m<g.n
def uQ(h:aa)(g:G)(cv fv:Value):Prop:=(cv=.pointer none/\fv=.pointer none)\/∃c b xs M,cv=ptr c/\fv=ptr b/\xs.length=g.n/\jw xs+1=((M:Nat):Int)/\M<=256/\(∀z∈xs,0<=z)/\ia h c xs/\mH h b M g.ag.length (ob g xs M)
structure kz(h:aa)(x r:Nat)(g:G)(tv cv fv:Value):Prop where
 x:h[x]? =some (.cells #[ptr r,tv,cv,fv] mA (0,0))
 n:bJ h r g
 t:uP h g tv
 c:uQ h g cv fv
theorem uP.more{h':aa}(H:uP h g tv)(e:Ext h h'):uP h' g tv:=by
 rcases H with h|⟨t,ms,a,b,c⟩
 ·exact .inl h
 ·exact .inr ⟨t,ms,a,b.more e,c⟩
theorem uQ.more{h':aa}(H:uQ h g cv fv)(e:Ext h h'):uQ h' g cv fv:=by
 rcases H with h|⟨c,b,xs,M,q1,q2,a,d,f,i,j,k⟩
 ·exact .inl h
 ·exact .inr ⟨c,b,xs,M,q1,q2,a,d,f,i,j.more e,k.more e⟩
theorem kz.more{h':aa}(H:kz h x r g tv cv fv)(e:Ext h h'):kz h' x r g tv cv fv:=⟨e.get H.x,H.n.more e,H.t.more e,H.c.more e⟩
theorem kz.ld{k:Nat}{v:Value}{K':Value->Prop}(H:kz h x r g tv cv fv)(hk:[ptr r,tv,cv,fv][k]? =some v)(hK:K' v):af h (.pointer (some ⟨x,k,none⟩)) K':=
 bC rfl (aY H.x (by simpa using hk)) hK
def isNil:Value->Bool
 | .pointer none=>true
 |_=>false
theorem Ca{ne:Bool}{v:Value}{K':Value->Prop}(hv:v=.pointer none\/∃t,v=ptr t)(hK:K' (.bool (ne != isNil v))):bL ne .ptr v (.pointer none) K':=by
 rcases hv with rfl|⟨t,rfl⟩
 ·cases ne<;>exact hK
 ·cases ne<;>exact hK
theorem uP.nil(H:uP h g tv):tv=.pointer none\/∃t,tv=ptr t:=by
 rcases H with h|⟨t,_,h,_⟩
 ·exact .inl h
 ·exact .inr ⟨t,h⟩
theorem uQ.nil(H:uQ h g cv fv):cv=.pointer none\/∃t,cv=ptr t:=by
 rcases H with ⟨h,_⟩|⟨t,_,_,_,h,_⟩
 ·exact .inl h
 ·exact .inr ⟨t,h⟩
theorem WI(hR:g.Right)(H:kz h x r g tv cv fv)(hK:∀h',Ext h h'->K (.bool true) h'):ah Tryz.prog zB [ptr x] h K:=by
 refine aK (aax _ ?_);unfold Ms;simp only[ef,Option.isNone_some,aL,bz,aQ,Nat.zero_add];refine H.ld rfl ?_;simp only[ef,Option.isNone_some,aL];refine gh (λy h'=>y.1=.bool true/\Ext h h') (λJ hJ=> ?_) ?_
 ·refine H.ld rfl (Ca H.t.nil ?_);rcases H.t with rfl|⟨t,ms,rfl,hT,hne,hl,hm⟩
  ·exact hJ _ _ ⟨rfl,.refl _ _⟩
  ·rw[show(false != isNil (ptr t))=false from rfl,aL];refine H.ld rfl (H.ld rfl (uJ hT ⟨H.ld rfl rfl,dF H.n ?_⟩));rw[cF,beq_self_eq_true,bq];refine H.ld rfl (uz (Own.start h) hT hl λw h1 o1=>(o1.vw 0 rfl).len ?_);rw[dI,dZ,decide_eq_true (by have :=List.length_pos_iff.2 hne;omega)];exact hJ _ _ ⟨rfl,o1.ext⟩
 ·rintro⟨y,⟨⟩⟩ h1 ⟨hy,x1⟩;dsimp only at hy ⊢;subst hy;have H1:=H.more x1;unfold Mr;simp only[bz,aQ,Nat.zero_add];refine H1.ld rfl (Ca H1.c.nil ?_);rcases H1.c with ⟨rfl,rfl⟩|⟨c,b,xs,M,rfl,rfl,d,e,j,k,f,i⟩
  ·rw[show(false != isNil (.pointer none))=true from rfl,bq];refine H1.ld rfl ?_;simp only[ef,Option.isNone_none];unfold AH;refine gh (λy h'=>y.1=.bool true/\h'=h1) (λJ hJ=> ?_) ?_
   ·rw[bq,bq];exact hJ _ _ ⟨rfl,rfl⟩
   ·rintro⟨y,⟨⟩⟩ h2 ⟨hy,rfl⟩;dsimp only at hy ⊢;subst hy;exact hK _ x1
  ·rw[show(false != isNil (ptr c))=false from rfl,aL];unfold AH;refine gh (λy h'=>y.1=.bool true/\Ext h h') (λJ hJ=> ?_) ?_
   ·rw[bq,aL];simp only[bz,aQ,Nat.zero_add];exact H1.ld rfl (H1.ld rfl (H1.ld rfl (V5 hR d H1.n f i e λh2 a=>hJ _ _ ⟨rfl,x1.trans a λ_ h _=>h⟩)))
   ·rintro⟨y,⟨⟩⟩ h2 ⟨hy,a⟩;dsimp only at hy ⊢;subst hy;exact hK _ a
def fZ(p1 p2:Nat):Nat->List Value
 |0=>[.bool false,.bool false,.func (.func wD) #[] #[ptr p1]]
 |1=>[.bool false,.bool false,.func (.func wD) #[] #[ptr p2]]
 |2=>[.bool true,.bool false,eE DU]
 |3=>[.bool true,.bool false,eE DW]
 |4=>[.bool false,.bool true,eE tA]
 |_=>[.bool true,.bool true,eE tA]
def yx(p1 p2:Nat):List Value:=fZ p1 p2 0++fZ p1 p2 1++fZ p1 p2 2++fZ p1 p2 3++fZ p1 p2 4++fZ p1 p2 5
def uR(i:Nat):Bool:=i==2||i==3||i==5
def yy(i:Nat):Bool:=i==4||i==5
def gK(tv cv:Value)(i:Nat):Bool:=(!uR i|| !isNil tv)&&(!yy i|| !isNil cv)
theorem IC{P:Nat->Prop}(h0:P 0)(h1:P 1)(h2:P 2)(h3:P 3)(h4:P 4)(h5:P 5):∀i,i<6->P i
 |0,_=>h0
 |1,_=>h1
 |2,_=>h2
 |3,_=>h3
 |4,_=>h4
 |5,_=>h5
 |i+6,h=>absurd h (by omega)
theorem yz{p1 p2:Nat}:∀i,i<6->∃f,fZ p1 p2 i=[.bool (uR i),.bool (yy i),f]/\Mh.plainCell f=true:=IC ⟨_,rfl,rfl⟩ ⟨_,rfl,rfl⟩ ⟨_,rfl,rfl⟩ ⟨_,rfl,rfl⟩ ⟨_,rfl,rfl⟩ ⟨_,rfl,rfl⟩
theorem ID{p1 p2:Nat}{K':Value->Prop}:∀i,i<6->K' (.agg (fZ p1 p2 i).toArray)->ou 3 6 (.agg (yx p1 p2).toArray) (I i) K':=λi hi hK=>by
 refine⟨by omega,by omega,?_⟩;revert hK;revert i;exact IC id id id id id id
theorem IE(hK:∀p1 p2 h',Own h h' [aj p1 [eE kI] rM,aj p2 [eE nT] rM]->K (.agg (yx p1 p2).toArray) h'):ah Tryz.prog vY [] h K:=by
 refine aK (aay ?_);unfold Mt;refine(Own.start h).box λt0 h1 o=> ?_;refine aK (NM _ ?_);unfold F5;refine o.box λp1 h2 o=> ?_;refine cG (cs':=fZ p1 p1 0) (by intro p hp;simp at hp;rcases hp with rfl|rfl|rfl<;>rfl) rfl rfl ?_;refine aK (NM _ ?_);unfold F5;refine o.box λp2 h3 o=> ?_;refine cG (cs':=fZ p1 p2 1) (by intro p hp;simp at hp;rcases hp with rfl|rfl|rfl<;>rfl) rfl rfl ?_;refine cG (cs':=fZ p1 p2 2) (by intro p hp;simp at hp;rcases hp with rfl|rfl|rfl<;>rfl) rfl rfl ?_;refine cG (cs':=fZ p1 p2 3) (by intro p hp;simp at hp;rcases hp with rfl|rfl|rfl<;>rfl) rfl rfl ?_;refine cG (cs':=fZ p1 p2 4) (by intro p hp;simp at hp;rcases hp with rfl|rfl|rfl<;>rfl) rfl rfl ?_;refine cG (cs':=fZ p1 p2 5) (by intro p hp;simp at hp;rcases hp with rfl|rfl|rfl<;>rfl) rfl rfl ?_;refine⟨bW rfl,?_⟩;refine o.st (l:=yx p1 p2) (cs':=yx p1 p2) 2 rfl rfl rfl rfl rfl ?_ λh4 o=>o.bN 2 rfl rfl rfl (hK p1 p2 h4 (o.bh [1,0] (by decide)));have pl:∀i,i<6->∀u∈fZ p1 p2 i,Mh.plainCell u=true:=λi hi u hu=>by
  obtain⟨f,e,hf⟩:=yz (p1:=p1) (p2:=p2) i hi;rw[e]at hu;simp at hu;rcases hu with rfl|rfl|rfl
  ·rfl
  ·rfl
  ·exact hf
 intro u hu;simp only[yx,List.mem_append]at hu;rcases hu with ((((hu|hu)|hu)|hu)|hu)|hu
 ·exact pl 0 (by decide) u hu
 ·exact pl 1 (by decide) u hu
 ·exact pl 2 (by decide) u hu
 ·exact pl 3 (by decide) u hu
 ·exact pl 4 (by decide) u hu
 ·exact pl 5 (by decide) u hu
theorem WJ{i:Nat}{p1 p2:Nat}(hi:i<6)(H:kz h x r g tv cv fv)(hK:∀h',Ext h h'->K (.bool (gK tv cv i)) h'):ah Tryz.prog zC [.agg (fZ p1 p2 i).toArray,ptr x] h K:=by
 obtain⟨f,e,hf⟩:=yz (p1:=p1) (p2:=p2) i hi;rw[e];refine aK (aaz _ _ ?_);unfold Mu;refine(Own.start h).box λw2 h1 o=> ?_;have o:Own h h1 [aj w2 [.bool (uR i),.bool (yy i),f] oR]:=o;have H1:=H.more o.ext;simp only[aQ,Nat.zero_add,bz];have k:=hK h1 o.ext;unfold gK at k;have fin:(!uR i|| !isNil tv)=true->af h1 (.pointer (some ⟨w2,1,none⟩)) λt17=>bS .not t17 λt18=>az t18 (K (.bool true) h1) (af h1 (.pointer (some ⟨x,2,none⟩)) λt23=>bL true .ptr t23 (.pointer none) λt24=>K t24 h1):=λhe=>by
  rw[he,Bool.true_and]at k;refine o.load 0 rfl rfl ?_;rw[bH];cases hc:yy i with
  |false=>
   rw[hc,Bool.not_false,Bool.true_or]at k;rw[Bool.not_false,bq];exact k
  |true=>
   rw[hc,Bool.not_true,Bool.false_or]at k;rw[Bool.not_true,aL];refine H1.ld rfl (Ca H1.c.nil ?_);rw[Bool.true_bne];exact k
 refine o.load 0 rfl rfl ?_;rw[bH];cases ht:uR i with
 |false=>
  rw[Bool.not_false,bq];exact fin (by rw[ht];rfl)
 | true=>
  rw[Bool.not_true,aL];refine H1.ld rfl (Ca H1.t.nil ?_);rw[Bool.true_bne];cases hd: !isNil tv with
  |true=>
   rw[bq];exact fin (by rw[hd,Bool.or_true])
  |false=>
   rw[aL];rw[ht,hd]at k;exact k
theorem ajJ{x1:Nat}{T1:TypeId}(hR:g.Right):gP Tryz.prog (.func (.func DN) #[] #[ptr x1]) (λh=>h[x1]? =some (.cells #[ptr x] T1 (0,0))/\kz h x r g tv cv fv) (σ:=Nat) 0 (vV 6 (gK tv cv)) (ry 6 (gK tv cv)):=by
 rintro yv h0 h p K J E ⟨l,rfl⟩ o c hQ hY hK;refine iJ (l:=[dm l,ptr x1]) rfl (abf _ _ ?_);unfold Nw;obtain⟨hm,hI⟩:=hQ _ _ _ c o;refine bC rfl (aY hm rfl) (WI hR hI λh1 q=> ?_);rw[bH,Bool.not_true,aL];refine IE λp1 p2 h2 o2=> ?_;have o:=(o.more q).more o2.ext;refine cg 6 (λi x h'=>x.1=I i/\∃s a,s<=i/\(∀k,s<=k->k<i->gK tv cv k=false)/\J s a/\Own h0 h' a) ⟨rfl,0,p,Nat.le_refl _,λk _ h=>absurd h (by omega),c,o⟩ ?_;rintro i ⟨y,⟨⟩⟩ h Z hi ⟨hy,s,a,hs,hno,hj,o⟩ hZ;dsimp only at hy hZ ⊢;subst hy;unfold Nv;rw[bu,bg];refine⟨λhlt=> ?_,λhge=> ?_⟩
 ·have hlt:i<6:=by omega
  refine ID i hlt ?_;obtain⟨f,e,hf⟩:=yz (p1:=p1) (p2:=p2) i hlt;refine o.box λw4 h3 b=> ?_;have b:Own h0 h3 (aj w4 [.bool false,.bool false,.nilFunc] oR::a):=b;refine b.st (l:=fZ p1 p2 i) (cs':=fZ p1 p2 i) 0 rfl rfl (by rw[e];rfl) rfl (by rw[e];rfl) (by intro u hu;rw[e]at hu;simp at hu;rcases hu with rfl|rfl|rfl;rfl;rfl;exact hf) λh4 d=> ?_;refine d.bN (cs':=fZ p1 p2 i) 0 rfl (by rw[e];rfl) (by rw[e];rfl) ?_;have j:=d.tail;obtain⟨hm,hI⟩:=hQ _ _ _ hj j;refine bC rfl (aY hm rfl) (WJ hlt hI λh5 t=> ?_);have m:=j.more t;unfold FZ;cases hf:gK tv cv i with
  | true=>
   rw[bq];refine hY s _ (i+1) a [] h5 _ ⟨i,hs,hlt,hf,hno,rfl,rfl⟩ hj m.mW (λn h'' hj' o'=> ?_) λn h'' he o'=> ?_
   ·rw[bH,Bool.not_true,aL,bt,wI i (by omega)];exact hZ (I (i+1:Nat),()) h'' hlt ⟨rfl,i+1,n,Nat.le_refl _,λk _ h=>absurd h (by omega),hj',o'.fm⟩
   ·rw[bH,Bool.not_false,bq];exact hK _ _ (.inr he) o'.fm
  |false=>
   rw[aL,bt,wI i (by omega)];refine hZ (I (i+1:Nat),()) h5 hlt ⟨rfl,s,a,by omega,λk h1 h2=> ?_,hj,m⟩;by_cases e:k=i
   ·subst e;exact hf
   ·exact hno k h1 (by omega)
 ·have :i=6:=by omega
  subst this;exact hK _ _ (.inl ⟨s,λk h1 h2=>hno k h1 h2,hj⟩) o
def mJ(tv cv:Value):List Nat:=(List.range 6).filter (gK tv cv)
theorem WK(o:Own h0 h L)(hR:g.Right)(H:kz h x r g tv cv fv)(hK:∀w h',Own h0 h' (aA aG 1 au w (nI (mJ tv cv))::L)->K w h'):ah Tryz.prog zp [ptr x] h K:=by
 refine aK (Z8 _ ?_);unfold LH;refine aK (aap _ ?_);unfold Mi;refine(Own.start h).box λx1 h1 o1=> ?_;have o1:Own h h1 [aj x1 [ptr x] tV]:=o1;refine VV o1 (ajJ (x:=x) (r:=r) (tv:=tv) (cv:=cv) (fv:=fv) (T1:=tV) hR) (λs=>(j4 6 (gK tv cv) (min s 6)).map λ(i:Nat)=>(i:Int)) rfl (λs x s'=> ?_) (λa h' o'=> ?_) λw h' s hst o'=> ?_
 ·rintro⟨j,hs,hj,hf,hno,rfl,rfl⟩;refine⟨(j:Int),rfl,?_,?_⟩
  ·rw[Nat.min_eq_left (show j+1<=6 by omega),Nat.min_eq_left (show s<=6 by omega),It hs hf hno,List.map_append];rfl
  ·have :=List.length_filter_le (gK tv cv) (List.range (j+1));rw[List.length_range]at this;rw[Nat.min_eq_left (show j+1<=6 by omega),List.length_map];unfold j4;omega
 ·exact⟨o'.get (a.length+0) (by rw[List.getElem?_append_right (by omega),show a.length+0-a.length=0 by omega];rfl),H.more o'.ext⟩
 ·have hs:j4 6 (gK tv cv) (min s 6)=mJ tv cv:=Iu (Nat.min_le_right _ _) λk' h1 h2=>hst k' (by omega) h2;rw[hs]at o';exact hK w h' (o.frame (o'.bh [0] (by decide)))
end
open Go Go.Mh
def dst(g:G)(s t:Nat):Int:=aF (g.from s).aH t
structure su(g:G)(one:Bool)(s t:Nat)(cs:List Nat)(bI:List Ev):Prop where
 o:mE g.n g.ag.length bI
 h:lN g bI
 l:bI.length<2^40
 c:cs.length<2147483648
 yes:dst g s t<aI->Trail g.ag s cs t/\cJ g.ag cs=dst g s t/\(one=true->∀e∈bI,e.kind=0->e.side=0/\e.label<=dst g s t)
 no:¬dst g s t<aI->cs=[]
section
variable{h0 h:aa}{L T:List aM}{K:KT}{g:G}{x r s t:Nat}{tv cv fv:Value}{al:List Bool}{pl:List Int}{av pv:Value}
theorem yA(hR:g.Right)(hs:s<g.n)(ht:t<g.n):0<=dst g s t/\dst g s t<=aI:=⟨(eX hR hs).ls.gC ht,(eX hR hs).ls.iB ht⟩
def Cb(h:aa)(g:G)(one:Bool)(s t:Nat)(K:KT):Prop:=∀wa a cs bI h',Own h h' [aA aG 1 au wa (nI cs),aA dA 4 eO a bI]->su g one s t cs bI->K (.tuple #[.agg #[I (dst g s t),wa,a],I 0]) h'
theorem qF(hF:jR g)(hN:bJ h r g)(HP:Vw aG 1 h pv pl)(HA:Vw dP 1 h av al)(hl:pl=[]\/g.n=pl.length)(hla:al=[]\/g.ag.length=al.length)(hs:s<g.n)(ht:t<g.n)(hne:s≠t)(hA:uH g al pl s t)
  (hK:Cb h g true s t K):ah Tryz.prog kI [ptr r,.agg (gW s t av pv).toArray] h K:=by
 have hR:=hF.toRight;have f:=hF.xw;have hshort:=hF.short;have c:(g.n+1)*(g.ag.length+1)<2^39:=Nat.lt_of_le_of_lt (Nat.mul_le_mul (show g.n+1<=13 by omega) (show g.ag.length+1<=85 by omega)) (by decide);refine ajI hR hN HP HA hl hla c hs ht (λe=>absurd e hne) λ_ wa d cs h' c1 c2 o=> ?_;have X:=hA.exact hR hs ht;have hd:=yA hR hs ht;have e:yw (sr g pl al s t) t=dst g s t:=by
  unfold yw;by_cases hlt:dst g s t<aI
  ·obtain⟨a,b⟩:=X.yes hlt;have a:(sr g pl al s t).2=true:=a;rw[if_pos a];exact b
  ·have a:(sr g pl al s t).2=false:=X.no hlt;rw[a];simp only[Bool.false_eq_true,if_false];omega
 rw[e];rw[Kg]at o;have hlen:=X.len;refine hK wa d cs.reverse _ h' o ⟨X.once,X.HS,by show(SS.run _ _ _ _ _ _ _).1.cK.length<_;omega,?_,λhlt=> ?_,λhlt=> ?_⟩
 ·rw[List.length_reverse];cases hf:(sr g pl al s t).2 with
  |true=>have :=X.short cs hf (c1 hf);omega
  |false=>rw[c2 hf];decide
 ·obtain⟨a,b⟩:=X.yes hlt;obtain⟨t1,t2⟩:=X.chain cs a (c1 a);refine⟨t1,t2.trans b,λ_ e he hk=> ?_⟩;have :=X.ahx a e he hk;rw[b]at this;exact this
 ·rw[c2 (X.no hlt)];rfl
theorem Cc(hR:g.Right)(hN:bJ h r g)(HP:Vw aG 1 h pv pl)(hl:pl=[]\/g.n=pl.length)(hs:s<g.n)(ht:t<g.n)(hne:s≠t)(hA:uI ⟨g,s,t,[],pl⟩)
  (hK:Cb h g false s t K):ah Tryz.prog nT [ptr r,.agg (gW s t aN pv).toArray] h K:=by
 have hr:nC g s t ([]:List Bool).length pl.length:=by
  unfold nC;refine⟨⟨by omega,by omega⟩,.inl rfl,?_⟩;rcases hl with rfl|hl
  ·exact .inl rfl
  ·exact .inr hl.symm
 refine ajx (allow:=[]) hR hN Vw.nil HP (λh=>absurd hr h) (λ_ e=>absurd (by omega) hne) λs' t' e1 e2 hQ hst wa a ag h' hB o=> ?_;have e1:s=s':=by omega
 have e2:t=t':=by omega
 subst e1 e2;have hx:(Qs.mk g s t [] pl).fin.aH=dst g s t:=hA.exact hQ hne;obtain⟨st,R,_⟩:=Qs.UZ hQ;rw[hx];have hlen:=R.HU hQ;have b:=hR.most;have hf:aI=72057594037927936:=rfl;unfold IB at hB;rw[hx]at hB;have hd:=yA hR hs ht;refine hK wa a ag _ h' o ⟨R.once,R.HS,by omega,?_,λhlt=> ?_,λhlt=> ?_⟩
 ·rcases hB with ⟨_,rfl⟩|⟨_,_,_,q,_⟩
  ·decide
  ·have q:ag.length<=2*g.n:=q;omega
 ·rcases hB with ⟨q,_⟩|⟨_,q1,q2,_⟩
  ·omega
  ·exact⟨q1,q2,λh=>by cases h⟩
 ·rcases hB with ⟨_,q⟩|⟨q,_⟩
  ·exact q
  ·exact absurd (by omega) q
structure WL(g:G)(one:Bool)(s t:Nat)(code aH:Int)(cs:List Nat)(bI:List Ev):Prop extends su g one s t cs bI where
 ok:dst g s t<aI->code=0/\aH=dst g s t
 bad:¬dst g s t<aI->code=20/\aH=0
def pI(h:aa)(g:G)(one:Bool)(s t:Nat)(K:KT):Prop:=∀code aH wa wc a cs bI h',Own h h' [aA aG 1 au wa (nI cs),aA dA 4 eO a bI]->wc.cells= #[wc]->Mh.plainCell wc=true->WL g one s t code aH cs bI->
 K (.tuple #[.agg #[I code,I aH,wa,wc],a]) h'
abbrev ga:List Value:=[I 0,I 0,aN,aN]
theorem pJ{code aH:Int}{wa wc:Value}(h1:Mh.plainCell wa=true)(h2:Mh.plainCell wc=true):∀u∈ [I code,I aH,wa,wc],Mh.plainCell u=true:=by
 intro u hu;simp at hu;rcases hu with rfl|rfl|rfl|rfl
 ·rfl
 ·rfl
 ·exact h1
 ·exact h2
theorem IF{f a5:Nat}{wa c wc:Value}{cs:List Nat}{bI:List Ev}{one:Bool}{parts:Value->Value->List (Nat×Nat×Value)}{e:KT}(hR:g.Right)(hs:s<g.n)(ht:t<g.n)
  (o:Own h0 h (aA aG 1 au wa (nI cs)::aA dA 4 eO c bI::aj f [I (dst g s t),wa,c] dJ::aj a5 ga eB::T)) (hS:su g one s t cs bI) (c1:wc.cells= #[wc]) (c2:Mh.plainCell wc=true)
  (hp:∀a b:Value,a.cells= #[a]->b.cells= #[b]->(∀p∈parts a b,p.2.2.cells= #[p.2.2])/\vS 4 (parts a b)=true/\vR ga (parts a b)=[I 0,a,b,wc])
  (hK:∀code aH i d f' h',d.cells= #[d]->Mh.plainCell d=true->WL g one s t code aH cs bI->Own h0 h' (aA aG 1 au i (nI cs)::aA dA 4 eO c bI::f'::aj a5 [I code,I aH,i,d] eB::T)->e c h'):
  aq 0 (ptr f) λt23=>af h t23 λt24=>ak .geq t24 (.int .i64 72057594037927936) λt25=>az t25
   (aP [(.int .i64 0),(.int .i64 0),(.slice none 0 0),(.slice none 0 0)] [(0,1,(.int .i64 20))] λt26=>aq 2 (ptr f) λt27=>af h t27 λt28=>aC 4 (ptr a5) t26 h λm h_10=>(af h_10 t27 λj=>j=t28)/\e t28 h_10)
   (aq 0 (ptr f) λt29=>af h t29 λt30=>aq 1 (ptr f) λt31=>af h t31 λt32=>aP [(.int .i64 0),(.int .i64 0),(.slice none 0 0),(.slice none 0 0)] (parts t30 t32) λt33=>aq 2 (ptr f) λt34=>af h t34 λt35=>
    aC 4 (ptr a5) t33 h λq h_11=>(af h_11 t34 λk=>k=t35)/\e t35 h_11):=by
 have hd:=yA hR hs ht;have hf:aI=72057594037927936:=rfl;simp only[aQ,Nat.zero_add];refine o.load 2 rfl rfl ?_;rw[c8,bg];refine⟨λhge=> ?_,λhlt=> ?_⟩
 ·refine cG (cs':=[I 20,I 0,aN,aN]) (by intro p hp;simp at hp;subst hp;rfl) rfl rfl ?_;refine o.load 2 rfl rfl (o.st (l:=[I 20,I 0,aN,aN]) (cs':=[I 20,I 0,aN,aN]) 3 rfl rfl rfl rfl rfl (pJ rfl rfl) λh1 o1=>⟨o1.load 2 rfl rfl rfl,?_⟩);have hn:=hS.no (by omega);subst hn;have o2:Own h0 h1 (aA aG 1 au aN (nI [])::_):=Own.en o1;exact hK 20 0 aN aN _ h1 rfl rfl ⟨hS,λh=>absurd h (by omega),λ_=>⟨rfl,rfl⟩⟩ (o2.front 5 [0,2,3,4] (by decide) (by decide))
 ·have ha:=o.vw 0 rfl;obtain⟨p1,p2,p3⟩:=hp (I (dst g s t)) wa rfl ha.one;refine o.load 2 rfl rfl (o.load 2 rfl rfl (cG (cs':=[I 0,I (dst g s t),wa,wc]) p1 p2 p3 ?_));refine o.load 2 rfl rfl (o.st (l:=[I 0,I (dst g s t),wa,wc]) (cs':=[I 0,I (dst g s t),wa,wc]) 3 rfl rfl rfl rfl rfl (pJ ha.plain c2) λh1 o1=>⟨o1.load 2 rfl rfl rfl,?_⟩);exact hK 0 (dst g s t) wa wc _ h1 c1 c2 ⟨hS,λ_=>⟨rfl,rfl⟩,λh=>absurd (show dst g s t<aI by omega) h⟩ o1
theorem sv{wa a:Value}{cs:List Nat}{bI:List Ev}{D:Int}(h1:Mh.plainCell wa=true)(h2:Mh.plainCell a=true):∀u∈ [I D,wa,a],Mh.plainCell u=true:=by
 intro u hu;simp at hu;rcases hu with rfl|rfl|rfl
 ·rfl
 ·exact h1
 ·exact h2
abbrev kU(way s t:Nat)(act:Int):Value:=.agg #[I way,I s,I t,I act]
abbrev fQ(way s t:Nat)(act:Int):List Value:=[I way,I s,I t,I act]
theorem WM{fn p way:Nat}{act:Int}{one:Bool}{T1:TypeId}(hR:g.Right)(H:kz h x r g tv cv fv)(hp:h[p]? =some (.cells #[eE fn] T1 (0,0)))(hs:s<g.n)(ht:t<g.n)
  (hF:∀(h':aa)(K':KT),bJ h' r g->Cb h' g one s t K'->ah Tryz.prog fn [ptr r,.agg (gW s t aN aN).toArray] h' K')
  (hK:pI h g one s t K):aS Tryz.prog (.func (.func wD) #[] #[ptr p]) [ptr x,kU way s t act].toArray h K:=by
 refine bU (l:=[ptr x,kU way s t act,ptr p]) rfl (acz _ _ _ ?_);unfold Pk;refine(Own.start h).box λk h1 o1=>o1.box λa5 h2 o2=> ?_;have o2:Own h h2 [aj a5 ga eB,aj k (fQ way s t act) eG]:=o2;have call:∀{h':aa}{K':KT},Ext h h'->Cb h' g one s t K'->aS Tryz.prog (eE fn) [ptr r,.agg (gW s t aN aN).toArray].toArray h' K':=λm hk=>bU (l:=[ptr r,.agg (gW s t aN aN).toArray]) rfl (H8 (hF _ _ (H.n.more m) hk));refine gh (λy h'=>∃f wa c cs bI,y=(ptr f,())/\su g one s t cs bI/\Own h h' [aA aG 1 au wa (nI cs),aA dA 4 eO c bI,aj f [I (dst g s t),wa,c] dJ,aj a5 ga eB,aj k (fQ way s t act) eG]) (λJ hJ=> ?_) ?_
 ·refine bC rfl (aY (o2.ext.get hp) rfl) ?_;simp only[bz,aQ,Nat.zero_add];refine(H.more o2.ext).ld rfl (o2.load 1 rfl rfl (o2.load 1 rfl rfl ?_));refine cG (cs':=gW s t aN aN) (by intro p hp;simp at hp;rcases hp with rfl|rfl<;>rfl) rfl rfl ⟨?_,?_⟩
  ·refine call o2.ext λwa c cs bI h3 d hS=> ?_;simp only[b9,bZ];have d:=o2.frame d;refine d.box λf h4 i=>i.st (l:=[I (dst g s t),wa,c]) (cs':=[I (dst g s t),wa,c]) 0 rfl rfl rfl rfl rfl (sv (cs:=cs) (bI:=bI) (d.vw 0 rfl).plain (d.vw 1 rfl).plain) λh5 j=> ?_;exact hJ _ _ ⟨f,wa,c,cs,bI,rfl,hS,j.bh [1,2,0,3,4] (by decide)⟩
  ·refine o2.box λf h3 d=>call d.ext λwa c cs bI h4 i hS=> ?_;simp only[b9,bZ];have i:=d.frame i;refine i.st (l:=[I (dst g s t),wa,c]) (cs':=[I (dst g s t),wa,c]) 2 rfl rfl rfl rfl rfl (sv (cs:=cs) (bI:=bI) (i.vw 0 rfl).plain (i.vw 1 rfl).plain) λh5 j=> ?_;exact hJ _ _ ⟨f,wa,c,cs,bI,rfl,hS,j⟩
 ·rintro⟨y,⟨⟩⟩ h3 ⟨f,wa,c,cs,bI,e,hS,d⟩;injection e with e _;dsimp only;subst e;unfold Pj;refine IF (wc:=aN) (parts:=λa b=>[(1,1,a),(2,1,b)]) hR hs ht d hS rfl rfl (λa b ha hb=>⟨λp hp=> ?_,rfl,rfl⟩) λcode aH o q f' h4 d1 d2 hA i=> ?_
  ·simp at hp;rcases hp with rfl|rfl
   ·exact ha
   ·exact hb
  ·exact i.bN 3 rfl rfl rfl (hK code aH o q c cs bI h4 (i.bh [0,1] (by decide)) d1 d2 hA)
end
open Go Go.Mh
section
variable{h0 h:aa}{L T:List aM}{K:KT}{g:G}{x r s t tb:Nat}{ms:List Nat}{tv cv fv:Value}
def yB(p:Value×Int):List Value:=[p.1,I p.2]
theorem ajK{lv:Value}{rs:List (Value×Int)}(H:Vw yB 2 h lv rs)(hl:rs.length<2^40)(b:∀p∈rs,Mh.plainCell p.1=true)
  (hF:∀p∈rs,∀(h':aa)(K':KT),Ext h h'->(∀h'',Ext h' h''->K' (.bool true) h'')->aS Tryz.prog p.1 [].toArray h' K') (hK:∀h',Ext h h'->K (I 0) h'):ah Tryz.prog E0 [lv] h K:=by
 refine aK (adN _ ?_);unfold RA;refine H.len (cg rs.length (λi x h'=>x.1=I i/\Ext h h') ⟨rfl,.refl _ _⟩ ?_);rintro i ⟨y,⟨⟩⟩ h' Z hi ⟨hy,x1⟩ hZ;dsimp only at hy hZ ⊢;subst hy;unfold Rz;rw[bu,bg];refine⟨λhlt=> ?_,λhge=>hK h' x1⟩;have hlt:i<rs.length:=by omega
 refine(H.more x1).mh (λ_=>rfl) hlt ?_;refine(Own.start h').box λd h2 o2=> ?_;refine o2.st (l:=yB rs[i]) (cs':=yB rs[i]) 0 rfl rfl rfl rfl rfl (by intro u hu;simp[yB]at hu;rcases hu with rfl|rfl;exact b _ (List.getElem_mem hlt);rfl) λh3 a=> ?_;simp only[aQ,Nat.zero_add];refine a.load 0 rfl rfl (hF _ (List.getElem_mem hlt) _ _ (x1.trans a.ext λ_ h _=>h) λh4 c=> ?_);rw[bH,Bool.not_true,aL,bt,wI i (by omega)];exact hZ (I (i+1:Nat),()) h4 hlt ⟨rfl,(x1.trans a.ext λ_ h _=>h).trans c λ_ h _=>h⟩
theorem ajL{way:Nat}{act:Int}(hR:g.Right)(hN:bJ h r g)(i:gy h tb g ms)(hne:ms≠ [])(hl:ms.length<=16)(hs:s<g.n)(ht:t<g.n)(hK:∀h',Ext h h'->K (I 0) h'):ah Tryz.prog Es [ptr r,ptr tb,kU way s t act] h K:=by
 refine aK (acK _ _ _ ?_);unfold PG;refine(Own.start h).box λn3 h1 o=>o.box λt4 h2 o=>o.box λd h3 o=> ?_;have o:Own h h3 [aj d (fQ way s t act) eG,aj t4 [ptr tb] eY,aj n3 [ptr r] cq]:=o;refine cG (cs':=[.func (.func Ak) #[] #[ptr n3],I 1]) (by intro p hp;simp at hp;rcases hp with rfl|rfl<;>rfl) rfl rfl ?_;simp only[aQ,Nat.zero_add];refine o.load 0 rfl rfl (o.load 0 rfl rfl ?_);refine cG (cs':=[.func (.func Al) #[] #[ptr t4,ptr n3],I 19]) (by intro p hp;simp at hp;rcases hp with rfl|rfl<;>rfl) rfl rfl ?_;refine bU (l:=[I s,ptr n3]) rfl (Rw _ _ ?_);unfold Gs;refine o.box λv1 h4 o=>⟨o.load 1 rfl rfl rfl,?_⟩;refine cG (cs':=[.func (.func rG) #[] #[ptr v1,ptr n3],I 17]) (by intro p hp;simp at hp;rcases hp with rfl|rfl<;>rfl) rfl rfl ?_;refine bU (l:=[I t,ptr n3]) rfl (Rw _ _ ?_);unfold Gs;refine o.box λv2 h5 o=> ?_;refine cG (cs':=[.func (.func rG) #[] #[ptr v2,ptr n3],I 18]) (by intro p hp;simp at hp;rcases hp with rfl|rfl<;>rfl) rfl rfl ?_;have o:Own h h5 [aj v2 [I t] au,aj v1 [I s] au,aj d (fQ way s t act) eG,aj t4 [ptr tb] eY,aj n3 [ptr r] cq]:=o;refine o.build (enc:=yB) (n:=2) [(.func (.func Ak) #[] #[ptr n3],1),(.func (.func rG) #[] #[ptr v1,ptr n3],17),(.func (.func rG) #[] #[ptr v2,ptr n3],18),(.func (.func Al) #[] #[ptr t4,ptr n3],19)] rfl (bW rfl) rfl λlv h6 o=> ?_;have q1:=o.get 1 rfl;have q2:=o.get 2 rfl;have e:=o.get 4 rfl;have c:=o.get 5 rfl;have node:∀{v:Nat}{w:Nat}(h':aa)(K':KT),v<g.n->h'[w]? =some (.cells #[I v] au (0,0))->h'[n3]? =some (.cells #[ptr r] cq (0,0))->bJ h' r g->K' (.bool true) h'->aS Tryz.prog (.func (.func rG) #[] #[ptr w,ptr n3]) [].toArray h' K':=λ{v w} h' K' hv c1 c2 hN hk=>by
  refine bU (l:=[ptr w,ptr n3]) rfl (adM _ _ ?_);unfold Ry;have d1:hcell h' ⟨w,0,none⟩=some (I v):=aY c1 rfl;have d2:hcell h' ⟨n3,0,none⟩=some (ptr r):=aY c2 rfl;refine gh (λy h''=>y.1=.bool true/\h''=h') (λJ hJ=> ?_) ?_
  ·refine bC rfl d1 ?_;rw[c8,decide_eq_true (by omega),bq];refine bC rfl d1 (bC rfl d2 (dF hN ⟨bC rfl d1 rfl,?_⟩));rw[bu,decide_eq_true (by omega)];exact hJ _ _ ⟨rfl,rfl⟩
  ·rintro⟨y,⟨⟩⟩ h'' ⟨hy,rfl⟩;dsimp only at hy ⊢;subst hy;exact hk
 refine ajK (o.vw 0 rfl) (show 4<2^40 by decide) (by intro p hp;simp at hp;rcases hp with rfl|rfl|rfl|rfl<;>rfl) (λp hp h' K' a hk=> ?_) λh' a=>hK h' (o.ri a);have x0:=o.ri a;simp at hp;rcases hp with rfl|rfl|rfl|rfl
 ·refine bU (l:=[ptr n3]) rfl (adO _ ?_);unfold RB;exact bC rfl (aY (a.get c) rfl) (hk _ (.refl _ _))
 ·exact node h' _ hs (a.get q2) (a.get c) (hN.more x0) (hk _ (.refl _ _))
 ·exact node h' _ ht (a.get q1) (a.get c) (hN.more x0) (hk _ (.refl _ _))
 ·refine bU (l:=[ptr t4,ptr n3]) rfl (adQ _ _ ?_);unfold RC;have f:=i.more x0;refine gh (λy h''=>y.1=.bool true/\Ext h' h'') (λJ hJ=> ?_) ?_
  ·refine bC rfl (aY (a.get e) rfl) (uz (Own.start h') f hl λw h2 o2=>(o2.vw 0 rfl).len ?_);rw[dI,dZ,decide_eq_true (by have :=List.length_pos_iff.2 hne;omega),bq];have b:=o2.ext;refine bC rfl (aY (b.get (a.get e)) rfl) (bC rfl (aY (b.get (a.get c)) rfl) (uJ (f.more b) ⟨bC rfl (aY (b.get (a.get c)) rfl) rfl,dF ((hN.more x0).more b) ?_⟩));rw[cF,beq_self_eq_true];exact hJ _ _ ⟨rfl,b⟩
  ·rintro⟨y,⟨⟩⟩ h'' ⟨hy,b⟩;dsimp only at hy ⊢;subst hy;exact hk _ b
theorem Cd{act:List Int}{al:List Bool}(hR:g.Right)(hs:s<g.n)(ht:t<g.n)(hm:∀m∈ms,m<g.n)(hal:dst g s t<aI->∃q,Trail g.ag s q t/\(∀i∈q,eV al i=true)/\cJ g.ag q=dst g s t):uH g al (nA g (bh ms act) t) s t:=
 ⟨ahA hR (H9 hm),λv=>ahz,by rw[HY hR ht];exact Vm,hal⟩
theorem WN{al:List Bool}(hal:dst g s t<aI->∃q,Trail g.ag s q t/\(∀i∈q,eV al i=true)/\cJ g.ag q=dst g s t):uH g al [] s t:=
 ⟨ahB,λv=>Int.le_refl _,rfl,hal⟩
theorem Ce(hR:g.Right)(hs:s<g.n)(ht:t<g.n):dst g s t<aI->∃q,Trail g.ag s q t/\(∀i∈q,eV [] i=true)/\cJ g.ag q=dst g s t:=λh=>by
 obtain⟨q,h1,h2,_⟩:=zm (c:=λ_=>0) (k:=0) hR hs ht rfl h;exact⟨q,h1,λ_ _=>rfl,h2⟩
theorem ajM{way:Nat}{act:Int}(hF:jR g)(hN:bJ h r g)(q:gy h tb g ms)(hne:ms≠ [])(hl:ms.length<=16)(hm:∀m∈ms,m<g.n)(hs:s<g.n)(ht:t<g.n)(hst:s≠t)
  (hK:pI h g true s t K):ah Tryz.prog DV [ptr r,ptr tb,kU way s t act] h K:=by
 have hR:=hF.toRight;refine aK (abv _ _ _ ?_);unfold NU;refine(Own.start h).box λv h1 o=>o.box λa6 h2 o=> ?_;have o:Own h h2 [aj a6 ga eB,aj v (fQ way s t act) eG]:=o;refine o.bN 1 rfl rfl rfl (ajL hR (hN.more o.ext) (q.more o.ext) hne hl hs ht λh3 w=> ?_);have o:=o.more w;simp only[aQ,Nat.zero_add];rw[fE,bne_self_eq_false,aL];refine o.load 1 rfl rfl (o.load 1 rfl rfl ?_);rw[cF,show((s:Int)==(t:Int))=false by simp;omega,aL];refine o.load 1 rfl rfl (o.load 1 rfl rfl (o.load 1 rfl rfl ?_));refine Ie o (q.more o.ext) hR hm hl hs ht λva ac cl zs h4 hA o=> ?_;have o:Own h h4 [aA aG 1 au cl zs,aj a6 ga eB,aj v (fQ way s t act) eG]:=o;have u:=hA.1 _ (o.vw 0 rfl);refine gh (λy h'=>∃f wa d cs bI,y=(ptr f,())/\su g true s t cs bI/\Own h h' [aA aG 1 au wa (nI cs),aA dA 4 eO d bI,aj f [I (dst g s t),wa,d] dJ,aj a6 ga eB]) (λJ hJ=> ?_) ?_
 ·refine o.load 2 rfl rfl (o.load 2 rfl rfl (o.load 2 rfl rfl ⟨?_,?_⟩))
  ·refine Ih o (q.more o.ext) hR hm hl ht u hA.2 λpv h5 j=>⟨j.load 3 rfl rfl rfl,j.load 3 rfl rfl rfl,?_⟩;have hp:=j.vw 0 rfl;refine cG (cs':=gW s t aN pv) (by intro p hp';simp at hp';rcases hp' with rfl|rfl|rfl;rfl;rfl;exact hp.one) rfl rfl ⟨?_,?_⟩
   ·refine qF (al:=[]) hF (hN.more j.ext) hp Vw.nil (.inr uG.symm) (.inl rfl) hs ht hst (Cd hR hs ht hm (Ce hR hs ht)) λwa d cs bI h6 c hS=> ?_;simp only[b9,bZ];have c:=j.frame c;refine c.box λf h7 i=>i.st (l:=[I (dst g s t),wa,d]) (cs':=[I (dst g s t),wa,d]) 0 rfl rfl rfl rfl rfl (sv (cs:=cs) (bI:=bI) (c.vw 0 rfl).plain (c.vw 1 rfl).plain) λh8 k=> ?_;exact hJ _ _ ⟨f,wa,d,cs,bI,rfl,hS,k.bh [1,2,0,5] (by decide)⟩
   ·refine j.box λf h6 c=> ?_;refine qF (al:=[]) hF (hN.more c.ext) (c.vw 1 rfl) Vw.nil (.inr uG.symm) (.inl rfl) hs ht hst (Cd hR hs ht hm (Ce hR hs ht)) λwa d cs bI h7 i hS=> ?_;simp only[b9,bZ];have i:=c.frame i;refine i.st (l:=[I (dst g s t),wa,d]) (cs':=[I (dst g s t),wa,d]) 2 rfl rfl rfl rfl rfl (sv (cs:=cs) (bI:=bI) (i.vw 0 rfl).plain (i.vw 1 rfl).plain) λh8 k=> ?_;exact hJ _ _ ⟨f,wa,d,cs,bI,rfl,hS,k.bh [0,1,2,5] (by decide)⟩
  ·refine o.box λf h5 o=> ?_;refine Ih o (q.more o.ext) hR hm hl ht (hA.1 _ (o.vw 1 rfl)) hA.2 λpv h6 c=>⟨c.load 4 rfl rfl rfl,c.load 4 rfl rfl rfl,?_⟩;have hp:=c.vw 0 rfl;refine cG (cs':=gW s t aN pv) (by intro p hp';simp at hp';rcases hp' with rfl|rfl|rfl;rfl;rfl;exact hp.one) rfl rfl ?_;refine qF (al:=[]) hF (hN.more c.ext) hp Vw.nil (.inr uG.symm) (.inl rfl) hs ht hst (Cd hR hs ht hm (Ce hR hs ht)) λwa d cs bI h7 i hS=> ?_;simp only[b9,bZ];have i:=c.frame i;refine i.st (l:=[I (dst g s t),wa,d]) (cs':=[I (dst g s t),wa,d]) 3 rfl rfl rfl rfl rfl (sv (cs:=cs) (bI:=bI) (i.vw 0 rfl).plain (i.vw 1 rfl).plain) λh8 k=> ?_;exact hJ _ _ ⟨f,wa,d,cs,bI,rfl,hS,k.bh [0,1,3,5] (by decide)⟩
 ·rintro⟨y,⟨⟩⟩ h5 ⟨f,wa,d,cs,bI,e,hS,j⟩;injection e with e _;dsimp only;subst e;unfold NT;refine IF (wc:=va) (parts:=λa b=>[(1,1,a),(2,1,b),(3,1,va)]) hR hs ht j hS u.one u.plain (λa b ha hb=>⟨λp hp=> ?_,rfl,rfl⟩) λcode aH z A f' h6 d1 d2 hA c=> ?_
  ·simp at hp;rcases hp with rfl|rfl|rfl
   ·exact ha
   ·exact hb
   ·exact u.one
  ·exact c.bN 3 rfl rfl rfl (hK code aH z A d cs bI h6 (c.bh [0,1] (by decide)) d1 d2 hA)
end
open Go Go.Mh
section
variable{h0 h:aa}{L T:List aM}{K:KT}{g:G}{x r s t way:Nat}{act:Int}{tv cv fv:Value}
abbrev uS(cv fv:Value)(r:Nat)(tv:Value)(way s t:Nat)(act:Int):List Value:=[cv,fv,ptr r,tv,I way,I s,I t,I act]
def WO(q1 qs:Nat):Nat->Value
 |0=>.func (.func EP) #[] #[ptr q1]
 |1=>.func (.func ER) #[] #[ptr q1]
 |2=>.func (.func ES) #[] #[ptr q1]
 |3=>.func (.func ET) #[] #[ptr q1]
 |_=>.func (.func EU) #[ptr qs] #[]
structure uT(h:aa)(g:G)(r:Nat)(tv cv fv:Value)(way:Nat):Prop where
 n:bJ h r g
 c:∃c b xs M,cv=ptr c/\fv=ptr b/\xs.length=g.n/\jw xs+1=((M:Nat):Int)/\M<=256/\(∀z∈xs,0<=z)/\ia h c xs/\mH h b M g.ag.length (ob g xs M)
 w:way=4\/way=5/\∃t ms,tv=ptr t/\gy h t g ms/\ms≠ []/\ms.length<=16/\∀m∈ms,m<g.n
theorem uT.more{h':aa}(H:uT h g r tv cv fv way)(e:Ext h h'):uT h' g r tv cv fv way:=by
 obtain⟨n,⟨c,b,xs,M,q1,q2,d,f,i,j,k,l⟩,w⟩:=H;refine⟨n.more e,⟨c,b,xs,M,q1,q2,d,f,i,j,k.more e,l.more e⟩,?_⟩;rcases w with h|⟨h,t,ms,a,b,c⟩
 ·exact .inl h
 ·exact .inr ⟨h,t,ms,a,b.more e,c⟩
theorem WQ{qs v:Nat}{T1:TypeId}(h2:h[qs]? =some (.cells (uS cv fv r tv way s t act).toArray T1 (0,0)))(hN:bJ h r g)(hv:v<g.n)(hK:K (.bool true) h):ah Tryz.prog Af [ptr qs,I v] h K:=by
 refine aK (adw _ _ ?_);unfold Rb;rw[c8,decide_eq_true (by omega),bq];have c2:hcell h ⟨qs,2,none⟩=some (ptr r):=aY h2 rfl;simp only[bz,aQ,Nat.zero_add];refine bC rfl c2 (dF hN ?_);rw[bu,decide_eq_true (by omega)];exact hK
theorem ajN{q1 qs:Nat}{T1 T2:TypeId}(hR:g.Right)(h1:h[q1]? =some (.cells #[ptr qs] T1 (0,0)))(h2:h[qs]? =some (.cells (uS cv fv r tv way s t act).toArray T2 (0,0)))(H:uT h g r tv cv fv way)(hs:s<g.n)(ht:t<g.n)
  (hK:∀h',Ext h h'->K (.bool true) h'):∀i,i<5->aS Tryz.prog (WO q1 qs i) [].toArray h K
 |0,_=>by
  refine bU (l:=[ptr q1]) rfl (adt _ ?_);unfold Q8;have c1:hcell h ⟨q1,0,none⟩=some (ptr qs):=aY h1 rfl;have c2:hcell h ⟨qs,2,none⟩=some (ptr r):=aY h2 rfl;refine bC rfl c1 ?_;simp only[bz,aQ,Nat.zero_add];exact bC rfl c2 (hK _ (.refl _ _))
 | 1,_=>by
  refine bU (l:=[ptr q1]) rfl (adu _ ?_);unfold Q9;have c1:hcell h ⟨q1,0,none⟩=some (ptr qs):=aY h1 rfl;have c2:hcell h ⟨qs,4,none⟩=some (I way):=aY h2 rfl;refine bC rfl c1 ?_;simp only[bz,aQ,Nat.zero_add];refine bC rfl c2 ?_;rw[cF,iW];refine⟨λ_=>hK _ (.refl _ _),λhne=>bC rfl c1 ?_⟩;simp only[bz,aQ,Nat.zero_add];refine bC rfl c2 ?_;have :way=5:=by
   rcases H.w with h|⟨h,_⟩
   ·exact absurd (by omega) hne
   ·exact h
  rw[cF,this];exact hK _ (.refl _ _)
 |2,_=>by
  refine bU (l:=[ptr q1]) rfl (adv _ ?_);unfold Ra;have c1:hcell h ⟨q1,0,none⟩=some (ptr qs):=aY h1 rfl;have c2:hcell h ⟨qs,5,none⟩=some (I s):=aY h2 rfl;refine bC rfl c1 (bC rfl c1 ?_);simp only[bz,aQ,Nat.zero_add];exact bC rfl c2 (WQ h2 H.n hs (hK _ (.refl _ _)))
 |3,_=>by
  refine bU (l:=[ptr q1]) rfl (adx _ ?_);unfold Rc;have c1:hcell h ⟨q1,0,none⟩=some (ptr qs):=aY h1 rfl;have c2:hcell h ⟨qs,6,none⟩=some (I t):=aY h2 rfl;refine bC rfl c1 (bC rfl c1 ?_);simp only[bz,aQ,Nat.zero_add];exact bC rfl c2 (WQ h2 H.n ht (hK _ (.refl _ _)))
 | 4,_=>by
  refine bU (l:=[ptr qs]) rfl (adz _ ?_);unfold Re;have c0:hcell h ⟨qs,0,none⟩=some cv:=aY h2 rfl;have c1:hcell h ⟨qs,1,none⟩=some fv:=aY h2 rfl;have c2:hcell h ⟨qs,2,none⟩=some (ptr r):=aY h2 rfl;obtain⟨c,b,xs,M,rfl,rfl,j,k,q,u,m,o⟩:=H.c;refine gh (λy h'=>y.1=.bool true/\Ext h h') (λJ hJ=> ?_) ?_
  ·simp only[bz,aQ,Nat.zero_add];refine bC rfl c2 (bC rfl c0 (bC rfl c1 (V5 hR j H.n m o k λh3 a=> ?_)));rw[bq];have d4:hcell h3 ⟨qs,4,none⟩=some (I way):=aY (a.get h2) rfl;refine bC rfl d4 ?_;rw[fE];rcases H.w with rfl|⟨rfl,tb,ms,rfl,hT,hne,hl,hm⟩
   ·exact hJ _ _ ⟨rfl,a⟩
   ·rw[show(((5:Nat):Int) != 5)=false from rfl,aL];refine aK (aen _ ?_);unfold Ss;have d3:hcell h3 ⟨qs,3,none⟩=some (ptr tb):=aY (a.get h2) rfl;refine gh (λy h'=>y.1=.bool true/\Ext h h') (λv p=> ?_) ?_
    ·simp only[bz,aQ,Nat.zero_add];refine bC rfl d3 (uz (Own.start h3) (hT.more a) hl λw h4 f=>(f.vw 0 rfl).len ?_);rw[dI,dZ,decide_eq_true (by have :=List.length_pos_iff.2 hne;omega),bq];have d:Ext h h4:=a.trans f.ext λ_ h _=>h;have e3:hcell h4 ⟨qs,3,none⟩=some (ptr tb):=aY (d.get h2) rfl;have e2:hcell h4 ⟨qs,2,none⟩=some (ptr r):=aY (d.get h2) rfl;refine bC rfl e3 (bC rfl e2 (uJ (hT.more d) ⟨bC rfl e2 rfl,dF (H.n.more d) ?_⟩));rw[cF,beq_self_eq_true];exact p _ _ ⟨rfl,d⟩
    ·rintro⟨y,⟨⟩⟩ h5 ⟨hy,e⟩;dsimp only at hy ⊢;subst hy;exact hJ _ _ ⟨rfl,e⟩
  ·rintro⟨y,⟨⟩⟩ h5 ⟨hy,e⟩;dsimp only at hy ⊢;subst hy;exact hK _ e
 |i+5,h=>absurd h (by omega)
theorem ajO{q1 qs:Nat}{T1:TypeId}:C4 Tryz.prog (.func (.func EO) #[] #[ptr q1]) (λh=>h[q1]? =some (.cells #[ptr qs] T1 (0,0))) (λx=>∃c:Int,∃i,i<5/\x=[I c,WO q1 qs i]):=by
 rintro yv h0 h a K J E ⟨l,rfl⟩ o b hQ hY hK;refine iJ (l:=[dm l,ptr q1]) rfl (ads _ _ ?_);unfold Q7;refine hY () _ () a [] h _ ⟨1,0,by decide,rfl⟩ b o.mW (λa h j o=> ?_) λa h e o=>by rw[aL];exact hK _ _ (.inr e) o.fm
 rw[bq];refine hY () _ () a [] h _ ⟨16,1,by decide,rfl⟩ j o (λa h j o=> ?_) λa h e o=>by rw[aL];exact hK _ _ (.inr e) o.fm
 rw[bq];refine hY () _ () a [] h _ ⟨17,2,by decide,rfl⟩ j o (λa h j o=> ?_) λa h e o=>by rw[aL];exact hK _ _ (.inr e) o.fm
 rw[bq];refine hY () _ () a [] h _ ⟨18,3,by decide,rfl⟩ j o (λa h j o=> ?_) λa h e o=>by rw[aL];exact hK _ _ (.inr e) o.fm
 rw[bq];refine bC rfl (aY (hQ _ _ _ j o.fm) rfl) ?_;exact hY () _ () a [] h _ ⟨19,4,by decide,rfl⟩ j o (λa h j o=>hK _ _ (.inl ⟨(),trivial,j⟩) o.fm) λa h e o=>hK _ _ (.inr e) o.fm
theorem ajP{xs:List Int}{M k:Nat}(hR:g.Right)(hs:s<g.n)(ht:t<g.n)(hk:aF xs t=(k:Int))(a:k<M):dst g s t<aI->∃q,Trail g.ag s q t/\(∀i∈q,eV (pH g.ag.length λi=>eZ (ob g xs M) (bP g.ag.length) k i) i=true)/\cJ g.ag q=dst g s t:=λh=>by
 obtain⟨q,h1,h2,h3⟩:=zm (c:=aF xs) (k:=aF xs t) hR hs ht rfl h;refine⟨q,h1,λi hi=> ?_,h2⟩;have hil:=h1.lt i hi;unfold eV pH;rw[List.getD_eq_getElem?_getD,List.getElem?_map,List.getElem?_range hil];show(_||eZ (j5 g xs M M) _ _ _)=true;rw[V3 hil (Nat.le_refl _),decide_eq_true a,Bool.true_and,<-hk,h3 i hi,Bool.or_true]
theorem ajQ(hF:jR g)(H:uT h g r tv cv fv way)(S:tv=.pointer none\/∃t,tv=ptr t)(hs:s<g.n)(ht:t<g.n)(hst:s≠t)
  (hK:pI h g true s t K):ah Tryz.prog DR [ptr r,tv,.agg #[cv,fv],kU way s t act] h K:=by
 have hR:=hF.toRight;have hshort:=hF.short;refine aK (abq _ _ _ _ ?_);unfold NL;refine(Own.start h).box λz h1 o=>o.box λa7 h2 o=>o.box λt8 h3 o=>o.box λt9 h4 o=> ?_;obtain⟨c,b,xs,M,rfl,rfl,az,aB,Z,af,U,ai⟩:=H.c;have o:Own h h4 [aj t9 [aN] nW,aj t8 ga eB,aj a7 (fQ way s t act) eG,aj z [ptr c,ptr b] tX]:=o;refine o.bN 3 rfl rfl rfl (o.bN 2 rfl rfl rfl ?_);have aC:tv.cells= #[tv]:=by rcases S with rfl|⟨_,rfl⟩<;>rfl
 have eq:∀{K':Value->Prop},K' (.agg (uS (ptr c) (ptr b) r tv way s t act).toArray)->aP [(.pointer none),(.pointer none),(.pointer none),(.pointer none),(.int .i64 0),(.int .i64 0),(.int .i64 0),(.int .i64 0)] [(0,2,.agg #[ptr c,ptr b]),(2,1,ptr r),(3,1,tv),(4,4,.agg (fQ way s t act).toArray)] K':=λ{K'} hk=>by
  rcases S with rfl|⟨_,rfl⟩
  ·exact⟨bW rfl,hk⟩
  ·exact⟨bW rfl,hk⟩
 refine eq (o.box λqs h5 o=> ?_);refine aK (acs _ ?_);unfold Pb;refine o.box λq1 h6 o=> ?_;have o:Own h h6 [aj q1 [ptr qs] wX,aj qs (uS (ptr c) (ptr b) r tv way s t act) Ay,aj t9 [aN] nW,aj t8 ga eB,aj a7 (fQ way s t act) eG,aj z [ptr c,ptr b] tX]:=o;refine o.range (ajO (qs:=qs) (T1:=wX)) (λ_ x _ hn=>by obtain⟨_,_,_,rfl⟩:=hn;rfl)
  (λ_ A=>A=[aj q1 [ptr qs] wX,aj qs (uS (ptr c) (ptr b) r tv way s t act) Ay,aj t9 [aN] nW,aj t8 ga eB,aj a7 (fQ way s t act) eG,aj z [ptr c,ptr b] tX]) (λ_=>False) (λ_ _=>False) rfl ?_ ?_ ?_ (λ_ _ h=>h.elim) (λ_ _ _ h=>h.elim)
 ·rintro _ A h' rfl o';exact o'.get 0 rfl
 ·rintro N _ x _ A Pr h' R ⟨cd,i,hi,rfl⟩ rfl o' hN _ _;dsimp only[fk];unfold NJ;refine o'.begin 0 rfl λh8 B=> ?_;refine ajN (h:=h8) hR (B.get 2 rfl) (B.get 3 rfl) (H.more B.ext) hs ht (λh9 ak=> ?_) i hi;rw[bH,Bool.not_true,aL];exact hN _ h9 rfl (B.more ak)
 ·rintro _ h' A _ rfl o;have o:Own h h' [bX h6.size,aj q1 [ptr qs] wX,aj qs (uS (ptr c) (ptr b) r tv way s t act) Ay,aj t9 [aN] nW,aj t8 ga eB,aj a7 (fQ way s t act) eG,aj z [ptr c,ptr b] tX]:=o;simp only[aQ,Nat.zero_add];refine o.load 5 rfl rfl (o.load 5 rfl rfl ?_);rw[cF,show((s:Int)==(t:Int))=false by simp;omega,aL];refine o.mkMap λm h7 o=>o.kE 0 rfl (f':=cu (λ_=>none) 4 (.func (.func zS) #[ptr qs] #[])) (λx=>rfl) λh8 o=>o.kE 0 rfl (f':=cu (cu (λ_=>none) 4 (.func (.func zS) #[ptr qs] #[])) 5 (.func (.func Ei) #[ptr qs] #[])) (λx=>rfl) λh9 o=> ?_;refine o.load 6 rfl rfl (o.look 0 rfl ?_);simp only[Bool.false_eq_true,if_false];obtain⟨k,hk⟩:=Int.eq_ofNat_of_zero_le (show 0<=aF xs t by rw[<-gZ (by omega)];exact af _ (List.getElem_mem _));have V:k<M:=by
   have :=ZD (l:=xs) (x:=aF xs t) (by rw[<-gZ (d:=xs) (v:=t) (by omega)];exact List.getElem_mem _);omega
  have hlb:bP g.ag.length<=12:=by unfold bP;omega
  have an:M*bP g.ag.length<2^40:=Nat.lt_of_le_of_lt (Nat.mul_le_mul Z hlb) (by decide);have hal:=ajP (s:=s) (M:=M) hR hs ht hk V;have hall:g.ag.length=(pH g.ag.length λi=>eZ (ob g xs M) (bP g.ag.length) k i).length:=by simp[pH]
  generalize hA:(pH g.ag.length λi=>eZ (ob g xs M) (bP g.ag.length) k i)=al at hal hall;refine aS.mono (K:=λv h'=>∃wc pv pl,v=.tuple #[wc,pv]/\wc.cells= #[wc]/\Mh.plainCell wc=true/\(pl=[]\/g.n=pl.length)/\uH g al pl s t/\
   Own h h' [aA aG 1 bY pv pl,bX h6.size,aj t9 [aN] nW,aj t8 ga eB,aj a7 (fQ way s t act) eG,aj z [ptr c,ptr b] tX]) ?_ λv h10⟨wc,pv,pl,e,w1,w2,C,D,o⟩=> ?_
  ·rcases H.w with rfl|⟨rfl,tb,ms,rfl,hT,hne,hl,hm⟩
   ·refine bU (l:=[ptr qs]) rfl (acu _ ?_);unfold Pc;exact⟨aN,aN,[],rfl,rfl,rfl,.inl rfl,WN hal,(Own.en (enc:=aG) (n:=1) (T:=bY) o).bh [0,2,5,6,7,8] (by decide)⟩
   ·refine bU (l:=[ptr qs]) rfl (acv _ ?_);unfold Pd;simp only[bz,aQ,Nat.zero_add];refine o.load 3 rfl rfl (o.load 3 rfl rfl (o.load 3 rfl rfl (o.load 3 rfl rfl ?_)));refine Ie o (hT.more o.ext) hR hm hl hs ht λva ac cl zs h11 hB o=>o.load 4 rfl rfl (o.load 4 rfl rfl ?_);have O:=hB.1 _ (o.vw 0 rfl);refine Ih o (hT.more o.ext) hR hm hl ht O hB.2 λpv h12 o=> ?_;exact⟨va,pv,_,rfl,O.one,O.plain,.inr uG.symm,Cd hR hs ht hm hal,o.bh [0,3,6,7,8,9] (by decide)⟩
  ·subst e;simp only[b9,bZ];have aD:∀{h':aa},Ext h h'->ia h' c xs:=λe=>U.more e;have W:∀{h':aa}{K':KT},Ext h h'->K' (I k) h'->ah Tryz.prog rD [ptr c,I t] h' K':=λe hk'=>Im (U.more e) (by omega) (by rw[hk];exact hk');have P:∀{h':aa}{K':KT}{L':List aM},Own h h' L'->(∀w h'',Own h h'' (aA dP 1 eA w al::L')->K' w h'')->ah Tryz.prog tK [ptr b,I k] h' K':=λo' hk'=>
    aiD o' (ai.more o'.ext) V an (by omega) (B3 (k:=M)) λw h'' X=>hk' w h'' (by rw[hA]at X;exact X)
   have Q:∀{w:Value}{K':Value->Prop},w.cells= #[w]->pv.cells= #[pv]->K' (.agg (gW s t w pv).toArray)->aP [(.int .i64 0),(.int .i64 0),(.slice none 0 0),(.slice none 0 0)] [(0,1,I s),(1,1,I t),(2,1,w),(3,1,pv)] K':=λ{w K'} h1 h2 hk'=>by
    refine cG (cs':=gW s t w pv) ?_ rfl rfl hk';intro p hp;simp at hp;rcases hp with rfl|rfl|rfl|rfl
    ·rfl
    ·rfl
    ·exact h1
    ·exact h2
   have fp:∀{h':aa}{wa j:Value}{cs:List Nat}{bI:List Ev}{L':List aM},Own h h' (aA aG 1 au wa (nI cs)::aA dA 4 eO j bI::L')->∀u∈ [I (dst g s t),wa,j],Mh.plainCell u=true:=λ{h' wa j cs bI L'} o'=>sv (cs:=cs) (bI:=bI) (o'.vw 0 rfl).plain (o'.vw 1 rfl).plain;refine gh (λy h'=>∃f wa j cs bI,y=(ptr f,())/\su g true s t cs bI/\Own h h' [aA aG 1 au wa (nI cs),aA dA 4 eO j bI,aj f [I (dst g s t),wa,j] dJ,aj t8 ga eB,bX h6.size,aj t9 [aN] nW]) (λJ hJ=> ?_) ?_
   ·refine o.load 4 rfl rfl (o.load 4 rfl rfl (o.load 5 rfl rfl (o.load 5 rfl rfl (o.load 4 rfl rfl ⟨?_,?_⟩))))
    ·refine W o.ext ⟨o.load 4 rfl rfl rfl,o.load 4 rfl rfl rfl,o.load 5 rfl rfl rfl,?_,?_⟩
     ·refine P o λw h11 o=>⟨o.load 5 rfl rfl rfl,o.load 5 rfl rfl rfl,Q (o.vw 0 rfl).one (o.vw 1 rfl).one ⟨?_,?_⟩⟩
      ·refine qF hF (H.n.more o.ext) (o.vw 1 rfl) (o.vw 0 rfl) C (.inr hall) hs ht hst D λwa j cs bI h12 o2 hS=> ?_;simp only[b9,bZ];have o2:=o.frame o2;refine o2.box λf E aq=>aq.st (l:=[I (dst g s t),wa,j]) (cs':=[I (dst g s t),wa,j]) 0 rfl rfl rfl rfl rfl (fp o2) λF q=> ?_;exact hJ _ _ ⟨f,wa,j,cs,bI,rfl,hS,q.bh [1,2,0,7,5,6] (by decide)⟩
      ·refine o.box λf h12 o=> ?_;refine qF hF (H.n.more o.ext) (o.vw 2 rfl) (o.vw 1 rfl) C (.inr hall) hs ht hst D λwa j cs bI E o2 hS=> ?_;simp only[b9,bZ];have o2:=o.frame o2;refine o2.st (l:=[I (dst g s t),wa,j]) (cs':=[I (dst g s t),wa,j]) 2 rfl rfl rfl rfl rfl (fp o2) λF q=> ?_;exact hJ _ _ ⟨f,wa,j,cs,bI,rfl,hS,q.bh [0,1,2,7,5,6] (by decide)⟩
     ·refine o.box λf h11 o=>P o λw h12 o=>⟨o.load 6 rfl rfl rfl,o.load 6 rfl rfl rfl,Q (o.vw 0 rfl).one (o.vw 2 rfl).one ?_⟩;refine qF hF (H.n.more o.ext) (o.vw 2 rfl) (o.vw 0 rfl) C (.inr hall) hs ht hst D λwa j cs bI E o2 hS=> ?_;simp only[b9,bZ];have o2:=o.frame o2;refine o2.st (l:=[I (dst g s t),wa,j]) (cs':=[I (dst g s t),wa,j]) 3 rfl rfl rfl rfl rfl (fp o2) λF q=> ?_;exact hJ _ _ ⟨f,wa,j,cs,bI,rfl,hS,q.bh [0,1,3,7,5,6] (by decide)⟩
    ·refine o.box λf h11 o=>W o.ext ⟨o.load 5 rfl rfl rfl,o.load 5 rfl rfl rfl,o.load 6 rfl rfl rfl,?_⟩;refine P o λw h12 o=>⟨o.load 6 rfl rfl rfl,o.load 6 rfl rfl rfl,Q (o.vw 0 rfl).one (o.vw 2 rfl).one ?_⟩;refine qF hF (H.n.more o.ext) (o.vw 2 rfl) (o.vw 0 rfl) C (.inr hall) hs ht hst D λwa j cs bI E o2 hS=> ?_;simp only[b9,bZ];have o2:=o.frame o2;refine o2.st (l:=[I (dst g s t),wa,j]) (cs':=[I (dst g s t),wa,j]) 3 rfl rfl rfl rfl rfl (fp o2) λF q=> ?_;exact hJ _ _ ⟨f,wa,j,cs,bI,rfl,hS,q.bh [0,1,3,7,5,6] (by decide)⟩
   ·rintro⟨y,⟨⟩⟩ E ⟨f,wa,j,cs,bI,e,hS,o⟩;injection e with e _;dsimp only;subst e;unfold NK;refine IF (wc:=wc) (parts:=λa b=>[(1,1,a),(2,1,b),(3,1,wc)]) hR hs ht o hS w1 w2 (λa b ha hb=>⟨λp hp=> ?_,rfl,rfl⟩) λcode aH av ax f' F d1 d2 hA o=> ?_
    ·simp at hp;rcases hp with rfl|rfl|rfl
     ·exact ha
     ·exact hb
     ·exact w1
    ·have Y:=o.vw 1 rfl;refine o.bf 5 (cs':=[j]) rfl rfl rfl Y.one Y.plain λaE o=>o.iZ 4 rfl λay o=>o.bN 3 rfl rfl rfl (o.load 5 rfl rfl ?_);exact hK code aH av ax j cs bI ay (o.bh [0,1] (by decide)) d1 d2 hA
end
end Go.Proofs.YthglofkkjoiepaaGreatDoor

set_option maxRecDepth 100000
namespace Go.Proofs.YthglofkkjoiepaaGreatDoor
open Go Go.Mh
section
variable{h0 h:aa}{L:List aM}{K:KT}{e:Nat}{tv:Value}
theorem ajT{K:Exit->bM->List Nat->aa->Prop}(hk:K .normal [(6,.bool true),(5,.iface gF tv),(1,.iface gF tv),(0,ptr e)] [] h):
  compile Tryz.prog 18 false (cL (cR (Tryz.f182.body.getD .skip))) .leaf [(1,.iface gF tv),(0,ptr e)] [] h K:=
 Eq.mpr (α:=compile Tryz.prog 18 false (cL (cR (Tryz.f182.body.getD .skip))) .leaf [(1,.iface gF tv),(0,ptr e)] [] h K) (β:=K .normal [(6,.bool true),(5,.iface gF tv),(1,.iface gF tv),(0,ptr e)] [] h) (by kernel_rfl) hk
def yC(e own:Value)(tv:Value):bM:=[(3,.bool true),(2,own),(11,.bool true),(10,tv),(7,.tuple #[tv,.bool true]),(9,.tuple #[tv,.bool true]),(8,.iface gF tv),(6,.bool true),(5,.iface gF tv),(1,.iface gF tv),(0,e)]
theorem ajU{K:bM->aa->Prop}(hk:aB gF (.agg #[.int .i64 0]) h λown h1=>aC 1 own tv h1 λ_ h2=>K (yC (ptr e) own tv) h2):
  pq Tryz.prog 18 (xL (cL (cT (cR (cR (Tryz.f182.body.getD .skip)))))) (λ_ _=>False) (xL (cL (cT (cR (cR (Tryz.f182.body.getD .skip)))))).toList [(6,.bool true),(5,.iface gF tv),(1,.iface gF tv),(0,ptr e)] h K:=
 Eq.mpr (α:=pq Tryz.prog 18 (xL (cL (cT (cR (cR (Tryz.f182.body.getD .skip)))))) (λ_ _=>False) (xL (cL (cT (cR (cR (Tryz.f182.body.getD .skip)))))).toList [(6,.bool true),(5,.iface gF tv),(1,.iface gF tv),(0,ptr e)] h K)
  (β:=aB gF (.agg #[.int .i64 0]) h λown h1=>aC 1 own tv h1 λ_ h2=>K (yC (ptr e) own tv) h2) (by kernel_rfl) hk
theorem ajV{own:Value}{K:aa->Prop}(hk:aq 0 own λt15=>af h t15 λt16=>aP [(.int .i64 0),(.int .i64 0),(.slice none 0 0),(.slice none 0 0)] [(0,1,t16)] λt17=>aC 4 (ptr e) t17 h λ_ h3=>K h3):
  compile Tryz.prog 18 false (cR (cT (cR (cR (Tryz.f182.body.getD .skip))))) (.two (.two .leaf (.two .leaf .leaf)) .leaf) (yC (ptr e) own tv) [] h (λex _ m h'=>ex=.normal/\m=[]/\K h'):=
 Eq.mpr (α:=compile Tryz.prog 18 false (cR (cT (cR (cR (Tryz.f182.body.getD .skip))))) (.two (.two .leaf (.two .leaf .leaf)) .leaf) (yC (ptr e) own tv) [] h (λex _ m h'=>ex=.normal/\m=[]/\K h'))
  (β:=aq 0 own λt15=>af h t15 λt16=>aP [(.int .i64 0),(.int .i64 0),(.slice none 0 0),(.slice none 0 0)] [(0,1,t16)] λt17=>aC 4 (ptr e) t17 h λ_ h3=>Exit.normal=.normal/\([]:List Nat)=[]/\K h3) (by kernel_rfl) (by
   simpa using hk)
theorem ajW{i:Nat}{f:Int}(o:Own h0 h L)(hi:L[i]? =some (aj e ga eB)){KP:aa->Prop}(hK:∀h',Own h0 h' (L.set i (aj e [I f,I 0,aN,aN] eB))->KP h'):
  BB Tryz.prog tL #[ptr e] [{v:=.iface gF (.agg #[I f]),recovered:=false}] h KP:=by
 refine⟨by kernel_rfl,λw hw=> ?_⟩;subst hw;refine callsDIn_of_wpSIn Tryz.func182 rfl trivial λc₀ cs hu=> ?_;apply wpSIn_seq;generalize hQ:bodyPostS Tryz.prog _ c₀ cs _=Q;apply wpSIn_region;simp[wpOpsSIn,go_sem,recoverD,hu,Tryz.ntmps182,Exit.thenS];have hr:∀(tm:Array Value),tm[0]? =some (ptr e)->tm[1]? =some (.iface gF (.agg #[I f]))->tm.size=18->
   Code.wpSIn Fence.wide 0 Tryz.prog (cR (Tryz.f182.body.getD .skip)) Q {tmps:=tm,defers:=[]} ({c₀ with mode:=.panicking [{v:=.iface gF (.agg #[I f]),recovered:=true}]}::cs) w:=by
  intro tm h1 h2 hs;subst hQ;refine wpSIn_of_wpIn rfl ?_;have hm:Tryz.prog.follows .mixedOrders=true:=by kernel_rfl
  have g:cR (Tryz.f182.body.getD .skip)=.seq (cL (cR (Tryz.f182.body.getD .skip))) (.cond (.tmp 6) (.seq (.region (vD (cL (cT (cR (cR (Tryz.f182.body.getD .skip)))))) (xL (cL (cT (cR (cR (Tryz.f182.body.getD .skip)))))) false) (cR (cT (cR (cR (Tryz.f182.body.getD .skip)))))) .skip):=by kernel_rfl
  rw[g];refine wpIn_seq ?_;have j:Rel [(1,.iface gF (.agg #[I f])),(0,ptr e)] tm:=by
   intro s v hv;unfold Mh.look at hv;split at hv
   ·rename_i hb;have :=Nat.eq_of_beq_eq_true hb;subst this;rw[h2];exact hv
   ·unfold Mh.look at hv;split at hv
    ·rename_i hb;have :=Nat.eq_of_beq_eq_true hb;subst this;rw[h1];exact hv
    ·cases hv
  refine jH (cL (cR (Tryz.f182.body.getD .skip))) .leaf none _ [] w.heap (λex e' m h'=>ex=.normal/\m=[]/\h'=w.heap/\e'=[(6,.bool true),(5,.iface gF (.agg #[I f])),(1,.iface gF (.agg #[I f])),(0,ptr e)])
   (ajT ⟨rfl,rfl,rfl,rfl⟩) hm [] _ w _ j hs rfl rfl ?_
  rintro ex e1 m1 a1 w1 d k q hs1 _ _ ⟨rfl,rfl,r,rfl⟩;refine wpIn_cond_true (c:=.tmp 6) (by rw[nH,<-d.ev (x:=.tmp 6) (by rfl)];rfl) (wpIn_seq ?_);refine agr (n:=18) (by kernel_rfl) d k r (K:=λe2 h2=>∃own,e2=yC (ptr e) own (.agg #[I f])/\∃b,own=ptr b/\Own h0 h2 (aj b [I f] gF::L)) ?_ ?_
  ·refine ajU (e:=e) (tv:=.agg #[I f]) ?_;refine o.box λown h2 o2=>o2.st (l:=[I f]) (cs':=[I f]) 0 rfl rfl rfl rfl rfl (by intro u hu;simp at hu;subst hu;rfl) λh3 a=> ?_;exact⟨ptr own,rfl,own,rfl,a⟩
  rintro e2 a2 w2 t hn2 hd2 hs2 ⟨_,rfl,b,rfl,o2⟩;refine jH (cR (cT (cR (cR (Tryz.f182.body.getD .skip))))) (.two (.two .leaf (.two .leaf .leaf)) .leaf) none _ [] w2.heap (λex _ m h'=>ex=.normal/\m=[]/\KP h')
   (ajV (own:=ptr b) ?_) hm [] _ w2 _ t hn2 (hd2.trans q) rfl ?_
  ·simp only[aQ,Nat.zero_add];refine o2.load 0 rfl rfl (cG (cs':=[I f,I 0,aN,aN]) (by intro p hp;simp at hp;subst hp;rfl) rfl rfl ?_);exact o2.st (l:=[I f,I 0,aN,aN]) (cs':=[I f,I 0,aN,aN]) (i+1) (by simpa using hi) rfl rfl rfl rfl (pJ rfl rfl) λh3 a=>hK h3 (by simpa using a.tail)
  ·rintro ex e' m' a' w' hrl _ hd y _ _ ⟨rfl,rfl,hh⟩;have z:a'.defers=[]:=hd;refine⟨z,_,rfl,.tuple #[],?_,_,rfl,rfl,(hs1.trans hs2).trans y,hh⟩
   ·have hq:fD Tryz.prog e' w'.heap Tryz.f182.results.toList (λl=>l=[]):=by
     rw[Tryz.results182];rfl
    obtain⟨l,hl,rfl⟩:=sZ hrl hq;exact om hl w' rfl
 refine hr _ ?_ ?_ ?_
 ·simp
 ·simp
 ·simp
def WU(P:Program)(a b:Value)(h:aa)(K:KT)(c:jT):Prop:=
 bS .not a λt5=>
 az t5
 (aP [(.int .i64 0)] [(0,1,b)] λt7=>
 c [{v:=.iface gF t7,recovered:=false}] h)
 (K (.tuple #[]) h)
theorem ajX(a b:Value){h:aa}{K:KT}{d:jT}(H:WU Tryz.prog a b h K d):xJ Tryz.prog nU [a,b].toArray h K d:=
 ajR (bA:=.two (.pl .leaf) (.two .Cf (.pl .leaf))) (c:=Tryz.f186.body.getD .skip) Tryz.func186 (by kernel_rfl) (by kernel_rfl) (by kernel_rfl) (of_decide_eq_true (by kernel_rfl))
  (Eq.mpr (by kernel_rfl) H)
def WV(P:Program)(t28 a6:Value)(K:KT)(a:Value)(h_24:aa):Prop:=
 aq 2 a λt46=>
 af h_24 t46 λt47=>
 aq 0 a λt48=>
 af h_24 t48 λt49=>
 ak .lss t49 (.int .i64 72057594037927936) λt50=>
 xK P (.func (.func nU) #[] #[]) [t50,(.int .i64 20)].toArray h_24 (λ_ h_25=>
 aq 0 a λt52=>
 af h_25 t52 λt53=>
 aq 1 a λt54=>
 af h_25 t54 λt55=>
 aP [(.int .i64 0),(.int .i64 0),(.slice none 0 0),(.slice none 0 0)] [(1,1,t53),(2,1,t55),(3,1,t28)] λt57=>
 aC 4 a6 t57 h_25 λ_ h_26=>
 jo P tL #[a6] h_26 λh_27=>
 aZ 4 h_27 a6 λb=>
 K (.tuple #[b,t47]) h_27) (λc h_28=>
 BB P tL #[a6] c h_28 λh_29=>
 aZ 4 h_29 a6 λd=>
 K (.tuple #[d,t47]) h_29)
def WW(P:Program)(n0 t1 q2:Value)(h:aa)(K:KT):Prop:=
 aB eG q2 h λa h_1=>
 aB eB (.agg #[(.int .i64 0),(.int .i64 0),(.slice none 0 0),(.slice none 0 0)]) h_1 λa6 h_2=>
 aZ 4 h_2 a λt13=>
 ah P Et [n0,t1,t13] h_2 λt14 h_3=>
 aq 1 a λt15=>
 af h_3 t15 λt16=>
 aq 2 a λt17=>
 af h_3 t17 λt18=>
 ak .eql t16 t18 λt19=>
 az t19
 (aZ 4 h_3 a6 λt20=>
 aC 4 a6 t20 h_3 λu h_4=>
 jo P tL #[a6] h_4 λh_5=>
 aZ 4 h_5 a6 λres=>
 K (.tuple #[res,(.slice none 0 0)]) h_5)
 (aq 1 a λt22=>
 af h_3 t22 λt23=>
 aq 2 a λt24=>
 af h_3 t24 λt25=>
 aq 3 a λt26=>
 af h_3 t26 λt27=>
 ah P wH [t1,t23,t25,t27] h_3 λt28 h_6=>
 eW (σ:=bw [9]) (λJ=>
 aq 1 a λt30=>
 af h_6 t30 λt31=>
 aq 2 a λt32=>
 af h_6 t32 λt33=>
 aq 1 a λt36=>
 af h_6 t36 λt37=>
 aq 2 a λt38=>
 af h_6 t38 λt39=>
 (ah P zW [t1,t28,t37,t39] h_6 λt40 h_7=>
 (af h_7 t30 λi=>
 i=t31)/\
 (af h_7 t32 λj=>
 j=t33)/\
 (aP [(.int .i64 0),(.int .i64 0),(.slice none 0 0),(.slice none 0 0)] [(0,1,t31),(1,1,t33),(3,1,t40)] λt41=>
 (ah P nT [n0,t41] h_7 λt42 h_8=>
 aX t42 0 λt43=>
 aX t42 1 λt44=>
 (ah P tM [t43,t44] h_8 λt45 h_9=>
 aB dJ (.agg #[(.int .i64 0),(.slice none 0 0),(.slice none 0 0)]) h_9 λf9 h_10=>
 aC 3 f9 t45 h_10 λw h_11=>
 J (f9,()) h_11)/\
 (aB dJ (.agg #[(.int .i64 0),(.slice none 0 0),(.slice none 0 0)]) h_8 λb h_12=>
 ah P tM [t43,t44] h_12 λk h_13=>
 aC 3 b k h_13 λy h_14=>
 J (b,()) h_14))/\
 (aB dJ (.agg #[(.int .i64 0),(.slice none 0 0),(.slice none 0 0)]) h_7 λc h_15=>
 ah P nT [n0,t41] h_15 λd h_16=>
 aX d 0 λl=>
 aX d 1 λm=>
 ah P tM [l,m] h_16 λn h_17=>
 aC 3 c n h_17 λz h_18=>
 J (c,()) h_18)))/\
 (aB dJ (.agg #[(.int .i64 0),(.slice none 0 0),(.slice none 0 0)]) h_6 λf h_19=>
 ah P zW [t1,t28,t37,t39] h_19 λo h_20=>
 (af h_20 t30 λp=>
 p=t31)/\
 (af h_20 t32 λq=>
 q=t33)/\
 (aP [(.int .i64 0),(.int .i64 0),(.slice none 0 0),(.slice none 0 0)] [(0,1,t31),(1,1,t33),(3,1,o)] λr=>
 ah P nT [n0,r] h_20 λg h_21=>
 aX g 0 λs=>
 aX g 1 λt=>
 ah P tM [s,t] h_21 λv h_22=>
 aC 3 f v h_22 λA h_23=>
 J (f,()) h_23)))
 (λx hh=>WV P t28 a6 K x.1 hh))
theorem ajY(n0 t1 q2:Value){h:aa}{K:KT}(H:WW Tryz.prog n0 t1 q2 h K):aE Tryz.prog DX [n0,t1,q2].toArray h K:=
 ajS (g:=tL) (A:=cL (Tryz.f104.body.getD .skip)) (B:=cR (cR (Tryz.f104.body.getD .skip))) (l8:=.leaf) (iq:=.two (.pl .leaf) (.two (.pl (.two .leaf (.two (.two .leaf .leaf) .leaf))) (.two (.pl .leaf) (.cut [9] .leaf (.two (.pl .leaf) (.two .Cf (.pl (.two .leaf .leaf))))))))
  (id:=vD (cL (cR (Tryz.f104.body.getD .skip)))) (o1:=cO 0 (cL (cR (Tryz.f104.body.getD .skip)))) (o2:=cO 1 (cL (cR (Tryz.f104.body.getD .skip)))) (s:=10) (caps:= #[(.tmp 6)]) (c:={callee:=.value (.tmp 10),args:= #[],argTypes:= #[]})
  Tryz.func104 (by kernel_rfl) (by kernel_rfl) (by kernel_rfl) (of_decide_eq_true (by kernel_rfl)) (by kernel_rfl) (by kernel_rfl) (by kernel_rfl) (by kernel_rfl) rfl rfl (by kernel_rfl) (by kernel_rfl)
  (Eq.mpr (by kernel_rfl) H)
end
open Go Go.Mh
section
variable{h0 h:aa}{L T:List aM}{K:KT}{g:G}{x r s t tb:Nat}{ms:List Nat}{tv cv fv:Value}
theorem ajZ{P:Program}{f:Nat}{l:List Value}{h:aa}{K:KT}{a:jT}(H:xJ P f l.toArray h K a):xK P (.func (.func f) #[] #[]) l.toArray h K a:=by
 show xJ P f (#[]++l.toArray++ #[]) h K a;simpa using H
theorem yD{c:Int}(hK:K (.tuple #[]) h):ah Tryz.prog nU [.bool true,I c] h K:=by
 refine aK (acQ _ _ ?_);unfold PU;rw[bH,Bool.not_true,aL];exact hK
theorem aj0{way:Nat}{act:Int}(hN:bJ h r g)(d:gy h tb g ms)(hne:ms≠ [])(hl:ms.length<=16)(hs:s<g.n)(ht:t<g.n)(hK:∀h',Ext h h'->K (.tuple #[]) h'):ah Tryz.prog Et [ptr r,ptr tb,kU way s t act] h K:=by
 refine aK (acN _ _ _ ?_);unfold PO;refine(Own.start h).box λn3 h1 o=>o.box λt4 h2 o=>o.box λa h3 o=>o.box λb h4 o=> ?_;have o:Own h h4 [aj b [.nilFunc] fH,aj a (fQ way s t act) eG,aj t4 [ptr tb] eY,aj n3 [ptr r] cq]:=o;refine o.bf 0 (cs':=[.func (.func rI) #[] #[ptr n3]]) rfl rfl rfl rfl rfl λh5 o=> ?_;refine cG (cs':=[.func (.func E2) #[] #[ptr n3],.func (.func E3) #[] #[ptr b,ptr a],.func (.func E4) #[] #[ptr b,ptr a],.func (.func E5) #[] #[ptr t4,ptr n3]]) (by intro p hp;simp at hp;rcases hp with rfl|rfl|rfl|rfl<;>rfl) rfl rfl ?_;have there:∀{h':aa}{v:Nat}{K':KT},v<g.n->Own h h' [aj b [.func (.func rI) #[] #[ptr n3]] fH,aj a (fQ way s t act) eG,aj t4 [ptr tb] eY,aj n3 [ptr r] cq]->K' (.bool true) h'->
   aS Tryz.prog (.func (.func rI) #[] #[ptr n3]) [I v].toArray h' K':=λ{h' v K'} hv o hk=>by
  refine bU (l:=[I v,ptr n3]) rfl (adX _ _ ?_);unfold RM;rw[c8,decide_eq_true (by omega),bq];refine o.load 3 rfl rfl (dF (hN.more o.ext) ?_);rw[bu,decide_eq_true (by omega)];exact hk
 refine cg 4 (λi y h'=>y.1=I i/\Own h h' [aj b [.func (.func rI) #[] #[ptr n3]] fH,aj a (fQ way s t act) eG,aj t4 [ptr tb] eY,aj n3 [ptr r] cq]) ⟨rfl,o⟩ ?_;clear o;rintro i ⟨y,⟨⟩⟩ h6 Z hi ⟨hy,o⟩ hZ;dsimp only at hy hZ ⊢;subst hy;unfold PN;rw[bu,bg];refine⟨λhlt=> ?_,λhge=>hK h6 o.ext⟩;have nx:∀h',Own h h' [aj b [.func (.func rI) #[] #[ptr n3]] fH,aj a (fQ way s t act) eG,aj t4 [ptr tb] eY,aj n3 [ptr r] cq]->ak .add (I i) (.int .i64 1) λt20=>Z (t20,()) h':=λh' o'=>by
  rw[bt,wI i (by omega)];exact hZ (_,()) h' (by omega) ⟨rfl,o'⟩
 have hc:i=0\/i=1\/i=2\/i=3:=by omega
 rcases hc with rfl|rfl|rfl|rfl
 ·refine⟨by decide,by decide,?_⟩;refine bU (l:=[ptr n3]) rfl (adY _ ?_);unfold RN;exact o.load 3 rfl rfl (yD (nx _ o))
 ·refine⟨by decide,by decide,?_⟩;refine bU (l:=[ptr b,ptr a]) rfl (adZ _ _ ?_);unfold RO;simp only[aQ,Nat.zero_add];exact o.load 0 rfl rfl (o.load 1 rfl rfl (there hs o (yD (nx _ o))))
 ·refine⟨by decide,by decide,?_⟩;refine bU (l:=[ptr b,ptr a]) rfl (ad0 _ _ ?_);unfold RP;simp only[aQ,Nat.zero_add];exact o.load 0 rfl rfl (o.load 1 rfl rfl (there ht o (yD (nx _ o))))
 ·refine⟨by decide,by decide,?_⟩;refine bU (l:=[ptr t4,ptr n3]) rfl (ad1 _ _ ?_);unfold RQ;refine o.load 2 rfl rfl (uz o (d.more o.ext) hl λw h7 c=>(c.vw 0 rfl).len ?_);rw[dI,dZ,decide_eq_true (by have :=List.length_pos_iff.2 hne;omega),bq];refine c.load 3 rfl rfl (c.load 4 rfl rfl (uJ (d.more c.ext) ⟨c.load 4 rfl rfl rfl,dF (hN.more c.ext) ?_⟩));rw[cF,beq_self_eq_true];exact yD (nx _ c.tail)
theorem Cg{D:Int}{wa a:Value}(o:Own h0 h L)(hp:∀u∈ [I D,wa,a],Mh.plainCell u=true)(hK:∀h',Own h0 h' L->K (.agg #[I D,wa,a]) h'):ah Tryz.prog tM [.agg #[I D,wa,a],I 0] h K:=by
 refine aK (acO _ _ ?_);unfold PR;refine(Own.start h).box λc h1 o1=>o1.box λt4 h2 o1=> ?_;have o1:Own h h2 [aj t4 [I 0,aN,aN] dJ,aj c [I D,wa,a] dJ]:=o1;rw[cF,beq_self_eq_true];refine yD (o1.bN 1 rfl rfl rfl (o1.st (l:=[I D,wa,a]) (cs':=[I D,wa,a]) 0 rfl rfl rfl rfl rfl hp λh3 b=>b.bN 0 rfl rfl rfl ?_));exact hK _ (o.more b.ext)
theorem aj1{way:Nat}{act:Int}(hR:g.Right)(hN:bJ h r g)(v:gy h tb g ms)(hne:ms≠ [])(hl:ms.length<=16)(hm:∀m∈ms,m<g.n)(hs:s<g.n)(ht:t<g.n)(hst:s≠t)
  (hK:pI h g false s t K):ah Tryz.prog DX [ptr r,ptr tb,kU way s t act] h K:=by
 have hd:=yA hR hs ht;have hf:aI=72057594037927936:=rfl;refine aK (ajY _ _ _ ?_);unfold WW;refine(Own.start h).box λw h1 o=>o.box λa6 h2 o=> ?_;have o:Own h h2 [aj a6 ga eB,aj w (fQ way s t act) eG]:=o;refine o.bN 1 rfl rfl rfl (aj0 (hN.more o.ext) (v.more o.ext) hne hl hs ht λh3 z=> ?_);have o:=o.more z;simp only[aQ,Nat.zero_add];refine o.load 1 rfl rfl (o.load 1 rfl rfl ?_);rw[cF,show((s:Int)==(t:Int))=false by simp;omega,aL];refine o.load 1 rfl rfl (o.load 1 rfl rfl (o.load 1 rfl rfl ?_));refine Ie o (v.more o.ext) hR hm hl hs ht λva ac cl zs h4 hA o=> ?_;have o:Own h h4 [aA aG 1 au cl zs,aj a6 ga eB,aj w (fQ way s t act) eG]:=o;have q:=hA.1 _ (o.vw 0 rfl);have hB:uI ⟨g,s,t,[],mG g (bh ms ac) s t⟩:=ahE hR hs ht (H9 hm);have fp:∀{h':aa}{wa a:Value}{cs:List Nat}{bI:List Ev}{L':List aM},Own h h' (aA aG 1 au wa (nI cs)::aA dA 4 eO a bI::L')->∀u∈ [I (dst g s t),wa,a],Mh.plainCell u=true:=λ{h' wa a cs bI L'} o'=>sv (cs:=cs) (bI:=bI) (o'.vw 0 rfl).plain (o'.vw 1 rfl).plain;refine gh (λy h'=>∃f wa a cs bI,y=(ptr f,())/\su g false s t cs bI/\Own h h' [aA aG 1 au wa (nI cs),aA dA 4 eO a bI,aj f [I (dst g s t),wa,a] dJ,aj a6 ga eB]) (λJ hJ=> ?_) ?_
 ·refine o.load 2 rfl rfl (o.load 2 rfl rfl (o.load 2 rfl rfl (o.load 2 rfl rfl ⟨?_,?_⟩)))
  ·refine Vy o (v.more o.ext) hR hm hl hs ht q hA.2 λpv h5 d=>⟨d.load 3 rfl rfl rfl,d.load 3 rfl rfl rfl,?_⟩;have hp:=d.vw 0 rfl;refine cG (cs':=gW s t aN pv) (by intro p hp';simp at hp';rcases hp' with rfl|rfl|rfl;rfl;rfl;exact hp.one) rfl rfl ⟨?_,?_⟩
   ·refine Cc hR (hN.more d.ext) hp (.inr HZ.symm) hs ht hst hB λwa a cs bI h6 b hS=> ?_;simp only[b9,bZ];have b:=d.frame b;refine⟨?_,?_⟩
    ·refine Cg b (fp b) λh7 c=>c.box λf h8 j=>j.st (l:=[I (dst g s t),wa,a]) (cs':=[I (dst g s t),wa,a]) 0 rfl rfl rfl rfl rfl (fp b) λh9 k=> ?_;exact hJ _ _ ⟨f,wa,a,cs,bI,rfl,hS,k.bh [1,2,0,5] (by decide)⟩
    ·refine b.box λf h7 c=>Cg c (fp b) λh8 j=>j.st (l:=[I (dst g s t),wa,a]) (cs':=[I (dst g s t),wa,a]) 0 rfl rfl rfl rfl rfl (fp b) λh9 k=> ?_;exact hJ _ _ ⟨f,wa,a,cs,bI,rfl,hS,k.bh [1,2,0,5] (by decide)⟩
   ·refine d.box λf h6 b=> ?_;refine Cc hR (hN.more b.ext) (b.vw 1 rfl) (.inr HZ.symm) hs ht hst hB λwa a cs bI h7 c hS=> ?_;simp only[b9,bZ];have c:=b.frame c;refine Cg c (fp c) λh8 j=>j.st (l:=[I (dst g s t),wa,a]) (cs':=[I (dst g s t),wa,a]) 2 rfl rfl rfl rfl rfl (fp c) λh9 k=> ?_;exact hJ _ _ ⟨f,wa,a,cs,bI,rfl,hS,k.bh [0,1,2,5] (by decide)⟩
  ·refine o.box λf h5 o=> ?_;refine Vy o (v.more o.ext) hR hm hl hs ht (hA.1 _ (o.vw 1 rfl)) hA.2 λpv h6 b=>⟨b.load 4 rfl rfl rfl,b.load 4 rfl rfl rfl,?_⟩;have hp:=b.vw 0 rfl;refine cG (cs':=gW s t aN pv) (by intro p hp';simp at hp';rcases hp' with rfl|rfl|rfl;rfl;rfl;exact hp.one) rfl rfl ?_;refine Cc hR (hN.more b.ext) hp (.inr HZ.symm) hs ht hst hB λwa a cs bI h7 c hS=> ?_;simp only[b9,bZ];have c:=b.frame c;refine Cg c (fp c) λh8 j=>j.st (l:=[I (dst g s t),wa,a]) (cs':=[I (dst g s t),wa,a]) 3 rfl rfl rfl rfl rfl (fp c) λh9 k=> ?_;exact hJ _ _ ⟨f,wa,a,cs,bI,rfl,hS,k.bh [0,1,3,5] (by decide)⟩
 ·rintro⟨y,⟨⟩⟩ h5 ⟨f,wa,a,cs,bI,e,hS,d⟩;injection e with e _;dsimp only;subst e;unfold WV;have ha:=d.vw 0 rfl;simp only[aQ,Nat.zero_add];refine d.load 2 rfl rfl (d.load 2 rfl rfl ?_);rw[bu];refine ajZ (ajX _ _ ?_);unfold WU;rw[bH];by_cases hlt:dst g s t<aI
  ·rw[decide_eq_true (by omega),Bool.not_true,aL];simp only[aQ,Nat.zero_add];refine d.load 2 rfl rfl (d.load 2 rfl rfl (cG (cs':=[I 0,I (dst g s t),wa,va]) (by intro p hp';simp at hp';rcases hp' with rfl|rfl|rfl;rfl;exact ha.one;exact q.one) rfl rfl ?_));refine d.st (l:=[I 0,I (dst g s t),wa,va]) (cs':=[I 0,I (dst g s t),wa,va]) 3 rfl rfl rfl rfl rfl (pJ ha.plain q.plain) λh6 b=>ajn ?_;exact b.bN 3 rfl rfl rfl (hK 0 (dst g s t) wa va a cs bI h6 (b.bh [0,1] (by decide)) q.one q.plain ⟨hS,λ_=>⟨rfl,rfl⟩,λh=>absurd hlt h⟩)
  ·rw[decide_eq_false (by omega),Bool.not_false,bq];refine cG (cs':=[I 20]) (by intro p hp;simp at hp;subst hp;rfl) rfl rfl ?_;have hn:=hS.no hlt;subst hn;have b:Own h h5 (aA aG 1 au aN (nI [])::_):=Own.en d;refine ajW (f:=20) b (i:=4) rfl λh7 c=> ?_;exact c.bN 4 rfl rfl rfl (hK 20 0 aN aN a [] bI h7 (c.bh [0,2] (by decide)) rfl rfl ⟨hS,λh=>absurd h hlt,λ_=>⟨rfl,rfl⟩⟩)
end
open Go Go.Mh
section
variable{h0 h:aa}{L T:List aM}{K:KT}{g:G}{x r s t way:Nat}{act:Int}{tv cv fv:Value}
theorem yE{c:Int}(hK:K (.tuple #[]) h):ah Tryz.prog qc [.bool true,I c] h K:=by
 refine aK (aav _ _ ?_);unfold Mp;rw[bH,Bool.not_true,aL];exact hK
theorem WX{v a:Nat}{T1:TypeId}(hx:h[a]? =some (.cells #[ptr x] T1 (0,0)))(H:kz h x r g tv cv fv)(hv:v<g.n)(hK:K (.bool true) h):aS Tryz.prog (.func (.func zA) #[] #[ptr a]) [I v].toArray h K:=by
 refine bU (l:=[I v,ptr a]) rfl (aat _ _ ?_);unfold Mn;rw[c8,decide_eq_true (by omega),bq];refine bC rfl (aY hx rfl) ?_;show aJ (ptr x) _;simp only[bz,aQ,Nat.zero_add];refine H.ld rfl (dF H.n ?_);rw[bu,decide_eq_true (by omega)];exact hK
def IG(way:Nat):Bool:=way != 1&&way != 3
theorem II{fn t4:Nat}{one:Bool}{args:List Value}(o:Own h0 h (aj t4 ga eB::T))(hF:∀(K':KT),pI h g one s t K'->ah Tryz.prog fn args h K')(hK:pI h0 g one s t K):
  ah Tryz.prog fn args h λt15 h_3=>aX t15 0 λt16=>aX t15 1 λt17=>aC 4 (ptr t4) t16 h_3 λu h_4=>aZ 4 h_4 (ptr t4) λres=>K (.tuple #[res,t17]) h_4:=by
 refine hF _ λcode aH wa wc a cs bI h1 o1 c1 c2 hA=> ?_;simp only[b9,bZ];have o2:=o.frame o1;have o2:Own h0 h1 (aA aG 1 au wa (nI cs)::aA dA 4 eO a bI::aj t4 ga eB::T):=o2;refine o2.st (l:=[I code,I aH,wa,wc]) (cs':=[I code,I aH,wa,wc]) 2 rfl rfl rfl rfl rfl (pJ (o2.vw 0 rfl).plain c2) λh2 b=>b.bN 2 rfl rfl rfl ?_;exact hK code aH wa wc a cs bI h2 (b.bh [0,1] (by decide)) c1 c2 hA
theorem aj2{p1 p2:Nat}{f:Value}(hF:jR g)(H:kz h x r g tv cv fv)(h1:h[p1]? =some (.cells #[eE kI] rM (0,0)))(h2:h[p2]? =some (.cells #[eE nT] rM (0,0)))
  (hs:s<g.n) (ht:t<g.n) (hst:s≠t):∀i,i<6->gK tv cv i=true->∀(K:KT),pI h g (IG i) s t K->∀f,(fZ p1 p2 i)[2]? =some f->aS Tryz.prog f [ptr x,kU i s t act].toArray h K:=by
 have hR:=hF.toRight;have j:∀i,uR i=true->gK tv cv i=true->∃t ms,tv=ptr t/\gy h t g ms/\ms≠ []/\ms.length<=16/\∀m∈ms,m<g.n:=λi hi hh=>by
  unfold gK at hh;rw[hi]at hh;rcases H.t with rfl|h
  ·simp[isNil]at hh
  ·exact h
 have k:∀i,yy i=true->gK tv cv i=true->∃c b xs M,cv=ptr c/\fv=ptr b/\xs.length=g.n/\jw xs+1=((M:Nat):Int)/\M<=256/\(∀z∈xs,0<=z)/\ia h c xs/\mH h b M g.ag.length (ob g xs M):=λi hi hh=>by
  unfold gK at hh;rw[hi]at hh;rcases H.c with ⟨rfl,rfl⟩|h
  ·simp[isNil]at hh
  ·exact h
 have sift:∀i,(i=4\/i=5)->gK tv cv i=true->∀K,pI h g true s t K->aS Tryz.prog (eE tA) [ptr x,kU i s t act].toArray h K:=λi hi hh K hK=>by
  refine bU (l:=[ptr x,kU i s t act]) rfl (abp _ _ ?_);unfold NI;refine(Own.start h).box λe h3 o=>o.box λt4 h4 o=> ?_;have o:Own h h4 [aj t4 ga eB,aj e (fQ i s t act) eG]:=o;have H4:=H.more o.ext;simp only[bz,aQ,Nat.zero_add];refine H4.ld rfl (H4.ld rfl (H4.ld rfl (H4.ld rfl ?_)));obtain⟨c,b,xs,M,rfl,rfl,rest⟩:=k i (by rcases hi with rfl|rfl<;>rfl) hh;refine cG (cs':=[ptr c,ptr b]) (by intro p hp;simp at hp;rcases hp with rfl|rfl<;>rfl) rfl rfl (o.bN 1 rfl rfl rfl ?_);refine II o (λK' hk=>ajQ hF (uT.more (h:=h) ⟨H.n,⟨c,b,xs,M,rfl,rfl,rest⟩,?_⟩ o.ext) H.t.nil hs ht hst hk) hK;rcases hi with rfl|rfl
  ·exact .inl rfl
  ·exact .inr ⟨rfl,j 5 rfl hh⟩
 refine IC ?_ ?_ ?_ ?_ ?_ ?_
 ·intro _ K hK f hf;cases hf;exact WM hR H h1 hs ht (λh' K' hN hk=>qF hF hN Vw.nil Vw.nil (.inl rfl) (.inl rfl) hs ht hst (WN (Ce hR hs ht)) hk) hK
 ·intro _ K hK f hf;cases hf;exact WM hR H h2 hs ht (λh' K' hN hk=>Cc hR hN Vw.nil (.inl rfl) hs ht hst (ahD hR hs ht) hk) hK
 ·intro hh K hK f hf;cases hf;refine bU (l:=[ptr x,kU 2 s t act]) rfl (abu _ _ ?_);unfold NR;refine(Own.start h).box λe h3 o=>o.box λt4 h4 o=> ?_;have o:Own h h4 [aj t4 ga eB,aj e (fQ 2 s t act) eG]:=o;have H4:=H.more o.ext;simp only[bz,aQ,Nat.zero_add];refine H4.ld rfl (H4.ld rfl (o.bN 1 rfl rfl rfl ?_));obtain⟨tb,ms,rfl,a,b,c,d⟩:=j 2 rfl hh;exact II o (λK' hk=>ajM hF (H.n.more o.ext) (a.more o.ext) b c d hs ht hst hk) hK
 ·intro hh K hK f hf;cases hf;refine bU (l:=[ptr x,kU 3 s t act]) rfl (abw _ _ ?_);unfold NV;refine(Own.start h).box λe h3 o=>o.box λt4 h4 o=> ?_;have o:Own h h4 [aj t4 ga eB,aj e (fQ 3 s t act) eG]:=o;have H4:=H.more o.ext;simp only[bz,aQ,Nat.zero_add];refine H4.ld rfl (H4.ld rfl (o.bN 1 rfl rfl rfl ?_));obtain⟨tb,ms,rfl,a,b,c,d⟩:=j 3 rfl hh;exact II o (λK' hk=>aj1 hR (H.n.more o.ext) (a.more o.ext) b c d hs ht hst hk) hK
 ·intro hh K hK f hf;cases hf;exact sift 4 (.inl rfl) hh K hK
 ·intro hh K hK f hf;cases hf;exact sift 5 (.inr rfl) hh K hK
theorem WY(hF:jR g)(H:kz h x r g tv cv fv)(hw:way<6)(hh:gK tv cv way=true)(hs:s<g.n)(ht:t<g.n)(hK:pI h g (IG way) s t K):ah Tryz.prog zq [ptr x,kU way s t act] h K:=by
 have hR:=hF.toRight;refine aK (aaa _ _ ?_);unfold LN;refine(Own.start h).box λj h1 o=>o.box λk h2 o=>o.box λa4 h3 o=>o.box λm h4 o=> ?_;have o:Own h h4 [aj m [aN] nW,aj a4 ga eB,aj k (fQ way s t act) eG,aj j [ptr x] tV]:=o;refine o.load 3 rfl rfl (WI hR (H.more o.ext) λh5 w=>yE ?_);have o:=o.more w;simp only[aQ,Nat.zero_add];refine o.load 2 rfl rfl ?_;rw[c8,decide_eq_true (by omega),bq];refine o.load 2 rfl rfl ?_;rw[bu,decide_eq_true (by omega)];refine yE ?_;unfold FK;simp only[aQ,Nat.zero_add];refine o.load 2 rfl rfl (WX (o.get 3 rfl) (H.more o.ext) hs (yE (o.load 2 rfl rfl (WX (o.get 3 rfl) (H.more o.ext) ht (yE ?_)))));have p:∀{p1 p2 w7:Nat}{h':aa}{L':List aM}{i:Nat}{KH:KT},Own h h' L'->L'[i]? =some (aj w7 [.bool false,.bool false,.nilFunc] oR)->(∀h'',Own h h'' (L'.set i (aj w7 (fZ p1 p2 way) oR))->KH undef h'')->aC 3 (ptr w7) (.agg (fZ p1 p2 way).toArray) h' KH:=λ{p1 p2 w7 h' L' i KH} o' hi hk=>by
  obtain⟨f,e,hf⟩:=yz (p1:=p1) (p2:=p2) way hw;exact o'.st (l:=fZ p1 p2 way) (cs':=fZ p1 p2 way) i hi rfl (by rw[e];rfl) rfl (by rw[e];rfl) (by intro u hu;rw[e]at hu;simp at hu;rcases hu with rfl|rfl|rfl;rfl;rfl;exact hf) hk
 refine gh (λy h'=>∃w7 p1 p2,y=(ptr w7,())/\Own h h' [aj w7 (fZ p1 p2 way) oR,aj p1 [eE kI] rM,aj p2 [eE nT] rM,aj m [aN] nW,aj a4 ga eB,aj k (fQ way s t act) eG,aj j [ptr x] tV]) (λJ hJ=> ?_) ?_
 ·refine o.load 2 rfl rfl ⟨?_,?_⟩
  ·refine IE λp1 p2 h6 a=> ?_;have a:=o.frame a;refine⟨a.load 4 rfl rfl rfl,ID way hw (a.box λw7 h7 b=>p (i:=0) b rfl λh8 d=>hJ _ _ ⟨w7,p1,p2,rfl,d⟩)⟩
  ·refine o.box λw7 h6 a=>IE λp1 p2 h7 b=> ?_;have b:=a.frame b;refine⟨b.load 5 rfl rfl rfl,ID way hw (p (i:=2) b rfl λh8 d=>hJ _ _ ⟨w7,p1,p2,rfl,d.bh [2,0,1,3,4,5,6] (by decide)⟩)⟩
 ·rintro⟨y,⟨⟩⟩ h8 ⟨w7,p1,p2,e,o⟩;injection e with e _;dsimp only;subst e;unfold LM;obtain⟨f,c,hf⟩:=yz (p1:=p1) (p2:=p2) way hw;refine o.bN (cs':=fZ p1 p2 way) 0 rfl (by rw[c];rfl) (by rw[c];rfl) (o.load 6 rfl rfl (WJ hw (H.more o.ext) λh9 z=> ?_));rw[hh];have o:=o.more z;refine yE ?_;simp only[aQ,Nat.zero_add];refine o.load 5 rfl rfl (o.load 5 rfl rfl ?_);rw[cF];by_cases hst:s=t
  ·subst hst;rw[beq_self_eq_true,bq];refine o.bN 4 rfl rfl rfl (o.st (l:=ga) (cs':=ga) 4 rfl rfl rfl rfl rfl (pJ rfl rfl) λh10 o=>o.bf 3 (cs':=[aN]) rfl rfl rfl rfl rfl λh11 o=>Wu (o.bN 4 rfl rfl rfl (o.load 3 rfl rfl ?_)));have o2:=Own.en (enc:=aG) (n:=1) (T:=au) (Own.en (enc:=dA) (n:=4) (T:=eO) o);have e0:dst g s s=0:=(eX hR hs).ls.zero;refine hK 0 0 aN aN aN [] [] h11 (o2.bh [0,1] (by decide)) rfl rfl ⟨⟨λi e h=>(by simp at h),λi e h=>(by simp at h),by decide,by decide,λ_=>⟨rfl,by rw[e0];rfl,λ_ e h=>by cases h⟩,λ_=>rfl⟩,λ_=>⟨rfl,e0.symm⟩,λh=>absurd (by rw[e0];decide) h⟩
  ·rw[show((s:Int)==(t:Int))=false by simp;omega,aL];have o:=o;rw[c]at o;refine o.load 0 rfl rfl (o.load 6 rfl rfl (o.bN 5 rfl rfl rfl ?_));refine aj2 (act:=act) (f:=f) hF (H.more o.ext) (o.get 1 rfl) (o.get 2 rfl) hs ht hst way hw hh _ ?_ f (by rw[c];rfl);intro code aH wa wc q cs bI h10 A c1 c2 hA;simp only[b9,bZ];have o2:=o.frame A;have v:=o2.vw 1 rfl;refine o2.st (l:=[I code,I aH,wa,wc]) (cs':=[I code,I aH,wa,wc]) 6 rfl rfl rfl rfl rfl (pJ (o2.vw 0 rfl).plain c2) λh11 o=>o.bf 5 (cs':=[q]) rfl rfl rfl v.one v.plain λh12 o=>Wu (o.bN 6 rfl rfl rfl (o.load 5 rfl rfl ?_));exact hK code aH wa wc q cs bI h12 (o.bh [0,1] (by decide)) c1 c2 hA
end
end Go.Proofs.YthglofkkjoiepaaGreatDoor
