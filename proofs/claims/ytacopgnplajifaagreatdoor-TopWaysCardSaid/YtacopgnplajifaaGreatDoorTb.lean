/- Lemmas on the way to the law of this seat, joined. They have no conditions of their own. -/
import Derived.Test.YtacopgnplajifaaGreatDoorTa
import Derived.Test.YtacopgnplajifaaGreatDoorMc
import Derived.Test.YtacopgnplajifaaGreatDoorGa
import Derived.Test.YtacopgnplajifaaGreatDoorMb
import Derived.Shelf.SlSortCmp.Whole1
import Derived.KernelRfl
import Derived.Test.YtacopgnplajifaaGreatDoorGb
import Derived.Test.YtacopgnplajifaaGreatDoorMd
set_option linter.unusedVariables false
set_option linter.unusedSimpArgs false
set_option linter.unusedSectionVars false
set_option linter.defProp false
set_option maxRecDepth 100000

namespace Go.Proofs.YtacopgnplajifaaGreatDoor
open Go Go.Mh Tryz
def WG{v k:Nat}{S:List Nat}(hk:k<=S.length):(aqG v S k)[k]? =some v:=by unfold aqG;rw[eR (by rw[dO];omega),dO,show k-min k S.length=0 by omega];rfl
def WH{v k:Nat}{S:List Nat}(hk:k+1<=S.length):(aqG v S (k+1))[k]? =some (S.getD k 0):=by unfold aqG;rw[aqM (by rw[dO];omega),uf aa,cI,dD aa];rfl
def akI{v k:Nat}{S R:List Nat}(hk:k+1<=S.length):(((aqG v S (k+1))++R).set (k+1) (S.getD k 0)).set k v=aqG v S k++R:=by
 have e:S.drop k=S.getD k 0::S.drop (k+1):=by rw[cI,dD aa];exact iD aa
 have e2:S.take (k+1)=S.take k++ [S.getD k 0]:=by rw[cI,dD aa];exact cW aa
 have hl:(S.take k).length=k:=by rw[dO];omega
 unfold aqG;rw[e2,e];generalize S.getD k 0=a;generalize S.take k=T at hl;generalize S.drop (k+1)=D;subst hl;rw[show T++ [a]++v::D++R=T++(a::v::(D++R)) by simp,show T++v::(a::D)++R=T++(v::a::(D++R)) by simp];rw[mG _ _ aa,show T.length+1-T.length=1 by omega,mG _ _ (cq _),iE];rfl
section
variable{h0 h:af}{L:List aS}{K:KT}{vd cv:Value}{f:Nat->Int}{xs:List Nat}
def akJ{n q:Nat}(o:Own h0 h L)(hq:L[q]? =some (aC bg 1 3 vd xs))(hn:∀x∈xs,x<n)(hl:xs.length<2^40)
  (hC:∀(ys:List Nat)(h':af)(v w:Nat)(K':KT),v<n->w<n->Own h0 h' (L.set q (aC bg 1 3 vd ys))->(∀(z:Int) h'',Own h0 h'' (L.set q (aC bg 1 3 vd ys))->(z<0↔fJ f w v=true)->K' (I z) h'')->aX prog cv [I v,I w].toArray h' K')
  (hK:∀h',Own h0 h' (L.set q (aC bg 1 3 vd (ir f xs)))->K (.tuple #[]) h'):ah prog 397 [vd,I (0:Nat),I xs.length,cv] h K:=by
 refine aK (VE ?_);unfold HJ;rw[bw,wI 0 az];have e0:ir f (xs.take 1)++xs.drop 1=xs:=by
  cases xs with
  |nil=>rfl
  |cons a l=>rfl
 refine bV (xs.length-1) (λi x h'=>x.1=I (i+1:Nat)/\Own h0 h' (L.set q (aC bg 1 3 vd (ir f (xs.take (i+1))++xs.drop (i+1))))) ⟨rfl,by rw[e0,tI hq];exact o⟩ ?_;clear o;rintro i ⟨x,⟨⟩⟩ h1 Z hi ⟨hx,o⟩ hZ;dsimp only at hx hZ |-;subst hx;unfold HI;rw[bC,bA];refine⟨λhlt=> ?_,λhge=> ?_⟩
 case refine_2=>rw[fM aa,rz aa,eO]at o;exact hK h1 o
 have hlt:i+1<xs.length:=aa;have d:(ir f (xs.take (i+1))).length=i+1:=by rw[Wv,dO];omega
 have u:xs.drop (i+1)=xs[i+1]::xs.drop (i+2):=iD hlt;have A:xs.take (i+2)=xs.take (i+1)++ [xs[i+1]]:=cW hlt;have m:xs[i+1]<n:=hn _ (cu hlt);have p:∀x∈ir f (xs.take (i+1)),x<n:=λx hx=>hn x (lK (Aj.mem_iff.1 hx));rw[A,akn]at hZ;rw[u]at o;generalize ir f (xs.take (i+1))=S at o d p hZ;generalize xs[i+1]=v at o m hZ;generalize xs.drop (i+2)=R at o hZ;have B:lX f v S S.length=lX f v S (i+1):=by rw[d]
 refine tj (λj x h'=>x.1=I j/\j<=i+1/\lX f v S j=lX f v S S.length/\Own h0 h' (L.set q (aC bg 1 3 vd (aqG v S j++R)))) (k0:=i+1) ⟨rfl,cq _,B.symm,?_⟩ ?_
 .have :aqG v S (i+1)++R=S++v::R:=by
   unfold aqG;rw[fM aa,rz aa];simp
  rw[this];exact o
 clear o;rintro j ⟨x,⟨⟩⟩ h2 F ⟨hx,hj,hp,o⟩ r;dsimp only at hx r |-;subst hx;unfold HH;have hil:∀k,(aqG v S k).length=i+2:=λk=>by rw[akm,d]
 have b:∀{ys:List Nat},(L.set q (aC bg 1 3 vd ys))[q]? =some (aC bg 1 3 vd ys):=ng hq;have out:∀h',lX f v S S.length=j->Own h0 h' (L.set q (aC bg 1 3 vd (aqG v S j++R)))->aq .add (I (i+1:Nat)) (.int .i64 1) λt16=>Z (t16,()) h':=λh' C o'=>by rw[bw,wI (i+1) aa];refine hZ (_,()) h' aa ⟨rfl,?_⟩;unfold r7;rw[C];exact o'
 refine gW (λy h'=>y.1=.bool (decide (0<j/\fJ f (S.getD (j-1) 0) v=true))/\Own h0 h' (L.set q (aC bg 1 3 vd (aqG v S j++R)))) (λJ hJ=> ?_) ?_
 .rw[akS,bA];refine⟨λhpos=> ?_,λhz=>hJ _ _ ⟨by rw[bR λh=>hz aa],o⟩⟩;obtain⟨k,rfl⟩:∃k,j=k+1:=⟨j-1,aa⟩;have g:k<S.length:=aa;have l1:k+1<(aqG v S (k+1)++R).length:=by rw[cG,hil];omega
  have l0:k<(aqG v S (k+1)++R).length:=aa;have g1:(aqG v S (k+1)++R)[k+1]=v:=by have :=WG (v:=v) (S:=S) (k:=k+1) aa;rw[vY (by rw[hil];omega)];rw[dD (by rw[hil];omega)]at this;exact eV this
  have g0:(aqG v S (k+1)++R)[k]=S.getD k 0:=by have :=WH (v:=v) (S:=S) (k:=k) aa;rw[vY (by rw[hil];omega)];rw[dD (by rw[hil];omega)]at this;exact eV this
  refine(o.vw q b).dU (e:=λ(x:Nat)=>I x) (λ_=>rfl) l1 ?_;rw[g1,fc,bK aa aa,show((k+1:Nat):Int)-1=(k:Int) by omega];refine(o.vw q b).dU (e:=λ(x:Nat)=>I x) (λ_=>rfl) l0 ?_;rw[g0];have D:S.getD k 0<n:=by rw[sg g];exact p _ (cu g)
  refine hC _ _ _ _ _ m D o λz h3 c hz=> ?_;rw[bC];refine hJ _ _ ⟨?_,c⟩;refine eG Value.bool ?_;rw[pN,hz];exact⟨λh=>⟨aa,h⟩,λh=>h.2⟩
 .rintro⟨y,⟨⟩⟩ h3 ⟨hy,c⟩;dsimp only at hy |-;subst hy;clear o;unfold HG;rw[bA];refine⟨λhc=> ?_,λhc=> ?_⟩
  .obtain⟨k,rfl⟩:∃k,j=k+1:=⟨j-1,aa⟩;have hgt:fJ f (S.getD k 0) v=true:=hc.2;have g:k<S.length:=aa;have l1:k+1<(aqG v S (k+1)++R).length:=by rw[cG,hil];omega
   have l0:k<(aqG v S (k+1)++R).length:=aa;have g1:(aqG v S (k+1)++R)[k+1]=v:=by have :=WG (v:=v) (S:=S) (k:=k+1) aa;rw[vY (by rw[hil];omega)];rw[dD (by rw[hil];omega)]at this;exact eV this
   have g0:(aqG v S (k+1)++R)[k]=S.getD k 0:=by have :=WH (v:=v) (S:=S) (k:=k) aa;rw[vY (by rw[hil];omega)];rw[dD (by rw[hil];omega)]at this;exact eV this
   rw[fc,bK aa aa,show((k+1:Nat):Int)-1=(k:Int) by omega];rw[fc,bK aa aa,show((k+1:Nat):Int)-1=(k:Int) by omega];refine(c.vw q b).dU (e:=λ(x:Nat)=>I x) (λ_=>rfl) l0 ?_;refine(c.vw q b).dU (e:=λ(x:Nat)=>I x) (λ_=>rfl) l1 ?_;rw[g0,g1];refine c.setAt (a:=S.getD k 0) q b (λ_=>rfl) (qM _) l1 rfl λh4 s=> ?_;rw[jO]at s;refine s.setAt (a:=v) q b (λ_=>rfl) (qM _) (by rw[kV];exact l0) rfl λh5 t=> ?_;rw[jO,akI aa]at t;rw[fc,bK aa aa,show((k+1:Nat):Int)-1=(k:Int) by omega];refine r (_,()) h5 k aa ⟨rfl,aa,?_,t⟩;rw[<-hp]
   conv=>rhs;unfold lX
   rw[aW hgt]
  .refine out h3 ?_ c;rw[<-hp];cases j with
   |zero=>rfl
   |succ k=>unfold lX;have E:¬fJ f (S.getD k 0) v=true:=λh=>hc ⟨aa,h⟩;rw[aQ E]
end
end Go.Proofs.YtacopgnplajifaaGreatDoor

namespace Go.Proofs
open Go.Shelf Go.Mh
def Tryz.akQ:Go.Shelf.Ren:={f:=fun |6=>347|15=>385|14=>384|28=>405|29=>406|20=>397|21=>398|22=>399|23=>400|24=>401|25=>402|26=>403|27=>404|46=>409|47=>410|48=>411|49=>412|50=>413|57=>415|n=>n,t:=fun |22=>43|24=>3|25=>383|3=>3|39=>279|0=>0|53=>253|55=>251|4=>4|46=>499|45=>498|50=>222|5=>5|9=>9|66=>506|70=>509|76=>511|77=>223|n=>n,g:=λn=>n}
def Tryz.akR:SlLaysF.n6 prog Tryz.akQ where
 mixed:=bn
 f6:=⟨ "slices.SortFunc[[]int,int]",iC,func347.trans (eG some bn)⟩
 f14:=⟨ "slices.pdqsortCmpFunc[int]",iC,func384.trans (eG some bn)⟩
 f15:=func385.trans (eG some bn)
 f20:=⟨ "slices.insertionSortCmpFunc[int]",iC,func397.trans (eG some bn)⟩
 f21:=⟨ "slices.heapSortCmpFunc[int]",iC,func398.trans (eG some bn)⟩
 f22:=⟨ "slices.breakPatternsCmpFunc[int]",iC,func399.trans (eG some bn)⟩
 f23:=⟨ "slices.choosePivotCmpFunc[int]",iC,func400.trans (eG some bn)⟩
 f24:=⟨ "slices.reverseRangeCmpFunc[int]",iC,func401.trans (eG some bn)⟩
 f25:=⟨ "slices.partialInsertionSortCmpFunc[int]",iC,func402.trans (eG some bn)⟩
 f26:=⟨ "slices.partitionEqualCmpFunc[int]",iC,func403.trans (eG some bn)⟩
 f27:=⟨ "slices.partitionCmpFunc[int]",iC,func404.trans (eG some bn)⟩
 f28:=func405.trans (eG some bn)
 f29:=func406.trans (eG some bn)
 f46:=⟨ "slices.siftDownCmpFunc[int]",iC,func409.trans (eG some bn)⟩
 f47:=func410.trans (eG some bn)
 f48:=func411.trans (eG some bn)
 f49:=⟨ "slices.medianAdjacentCmpFunc[int]",iC,func412.trans (eG some bn)⟩
 f50:=⟨ "slices.medianCmpFunc[int]",iC,func413.trans (eG some bn)⟩
 f57:=⟨ "slices.order2CmpFunc[int]",iC,func415.trans (eG some bn)⟩
 t0:=underlying0
 a0:=Tryz.isAgg0
 z0:=Tryz.sizeOf0
 v0:=Tryz.zeroValue0
 t3:=underlying3
 a3:=Tryz.isAgg3
 z3:=Tryz.sizeOf3
 v3:=Tryz.zeroValue3
 t4:=underlying4
 a4:=Tryz.isAgg4
 z4:=Tryz.sizeOf4
 v4:=Tryz.zeroValue4
 t5:=underlying5
 a5:=Tryz.isAgg5
 z5:=Tryz.sizeOf5
 v5:=Tryz.zeroValue5
 t9:=underlying9
 a9:=Tryz.isAgg9
 z9:=Tryz.sizeOf9
 v9:=Tryz.zeroValue9
 t22:=underlying43
 a22:=Tryz.isAgg43
 z22:=Tryz.sizeOf43
 v22:=Tryz.zeroValue43
 a24:=Tryz.isAgg3
 z24:=Tryz.sizeOf3
 t25:=underlying383
 a25:=Tryz.isAgg383
 z25:=Tryz.sizeOf383
 v25:=Tryz.zeroValue383
 t39:=underlying279
 a39:=Tryz.isAgg279
 z39:=Tryz.sizeOf279
 v39:=Tryz.zeroValue279
 t45:=underlying498
 a45:=Tryz.isAgg498
 z45:=Tryz.sizeOf498
 v45:=Tryz.zeroValue498
 t46:=underlying499
 a46:=Tryz.isAgg499
 z46:=Tryz.sizeOf499
 v46:=Tryz.zeroValue499
 t50:=underlying222
 a50:=Tryz.isAgg222
 z50:=Tryz.sizeOf222
 v50:=Tryz.zeroValue222
 t53:=underlying253
 a53:=Tryz.isAgg253
 z53:=Tryz.sizeOf253
 v53:=Tryz.zeroValue253
 t55:=underlying251
 a55:=Tryz.isAgg251
 z55:=Tryz.sizeOf251
 v55:=Tryz.zeroValue251
 t66:=underlying506
 a66:=Tryz.isAgg506
 z66:=Tryz.sizeOf506
 v66:=Tryz.zeroValue506
 t70:=underlying509
 a70:=Tryz.isAgg509
 z70:=Tryz.sizeOf509
 v70:=Tryz.zeroValue509
 t76:=underlying511
 a76:=Tryz.isAgg511
 z76:=Tryz.sizeOf511
 v76:=Tryz.zeroValue511
 t77:=underlying223
 a77:=Tryz.isAgg223
 z77:=Tryz.sizeOf223
 v77:=Tryz.zeroValue223
end Go.Proofs
namespace Go.Proofs.YtacopgnplajifaaGreatDoor
open Go Go.Mh Tryz
def WN{le:Nat->Nat->Prop}(anti:∀a b,le a b->le b a->a=b):∀{l1 l2:List Nat},l1.Perm l2->l1.Pairwise le->l2.Pairwise le->l1=l2
 | [],l2,h,_,_=>(List.Perm.nil_eq h)
 |a::r,[],h,_,_=>absurd h.length_eq aP
 | a::r,b::s,h,p1,p2=>by
  have hab:a=b:=by
   have h1:a∈b::s:=h.mem_iff.1 (cN ..);have h2:b∈a::r:=h.mem_iff.2 (cN ..);rcases cV.1 h1 with e|h1
   .exact e
   .rcases cV.1 h2 with e|h2
    .exact e.symm
    .exact anti _ _ ((wz.1 p1).1 _ h2) ((wz.1 p2).1 _ h1)
  subst hab;rw[WN anti (List.Perm.cons_inv h) (wz.1 p1).2 (wz.1 p2).2]
def akU{h:af}{b:Nat}{c c':Array Value}{T:TypeId}{fr:Nat×Nat}{f:Array Value->Array Value}(hb:h[b]? =some (.cells c T fr))(hf:f c=c'):
  h.modify b (Go.Sort.onCells f)=bG h b (.cells c' T fr):=by
 apply E6;intro k;have hlt:=eY hb;rw[Array.getElem?_modify];unfold bG;by_cases hk:b=k
 .subst hk;rw[aW rfl,hb,Array.getElem?_setIfInBounds_self_of_lt hlt];show some (Obj.cells (f c) T fr)=_;rw[hf]
 .rw[aQ hk,yH hk]
section
variable{h0 h:af}{L:List aS}{K:KT}{vd:Value}{f:Nat->Int}{xs:List Nat}
def qR(n:Nat)(v:{v:Nat//v<n}):Value:=I v.1
def Il{l:List Nat}:Mh.row bg l=l.map λ(v:Nat)=>I v:=by
 unfold Mh.row bg
 induction l with
 |nil=>rfl
 |cons a l ih=>rw[jm,ih];rfl
def akW{n:Nat}[Inhabited {v:Nat//v<n}]{dk:Array {v:Nat//v<n}}{xs:List Nat}{rest:List Value}(hs:dk.size=xs.length):
  Go.Sort.putCells (qR n) 0 dk (Mh.row bg xs++rest).toArray=(Mh.row bg (dk.toList.map Subtype.val)++rest).toArray:=by
 apply E6;intro k;rw[Il,Il];simp only[Go.Sort.putCells,Array.getElem?_mapIdx,mP,fE,rB,bE,jl];have hA:(xs.map λ(v:Nat)=>I v).length=xs.length:=gK ..;have hB:((dk.toList.map Subtype.val).map λ(v:Nat)=>I v).length=xs.length:=by rw[gK,gK];exact hs
 by_cases hk:k<dk.size
 .rw[aqM aa,aqM aa];rw[pK,dD (show k<xs.length by omega)];simp only[vV,aW hk];rw[pK,pK,wg,sL hk];simp only[vV,qR];rw[yP dk k hk]
 .rw[eR aa,eR aa,hA,hB];cases hr:rest[k-xs.length]? with
  |none=>rfl
  |some v=>simp only[vV,aQ hk]
def WQ{n q:Nat}[Inhabited {v:Nat//v<n}](o:Own h0 h L)(hq:L[q]? =some (aC bg 1 3 vd xs)){bl cap:Nat}{rest:List Value}(hv:vd=.slice (some ⟨bl,0,none⟩) xs.length cap)(hb:h[bl]? =some (.cells (Mh.row bg xs++rest).toArray 3 (0,0)))
  (hr:rest.length=(cap-xs.length)*1) (hc:xs.length<=cap) (w:World) (hw:w.heap=h) (m:Nat) (dk:Array {v:Nat//v<n}) (os:Array Obj) (hs:dk.size=xs.length):
  Own h0 (Go.Proofs.sortWorld (qR n) w bl 0 m dk os).heap (L.set q (aC bg 1 3 vd (dk.toList.map Subtype.val))):=by
 subst hw;have e:(Go.Proofs.sortWorld (qR n) w bl 0 m dk os).heap=bG w.heap bl (.cells (Mh.row bg (dk.toList.map Subtype.val)++rest).toArray 3 (0,0))++os:=by show w.heap.modify bl (Go.Sort.onCells (Go.Sort.putCells (qR n) 0 dk))++os=_;rw[akU hb (akW hs)]
 rw[e];have hlt:=eY hb;have hlen:(dk.toList.map Subtype.val).length=xs.length:=by rw[gK];exact hs
 have o2:Own h0 (bG w.heap bl (.cells (Mh.row bg (dk.toList.map Subtype.val)++rest).toArray 3 (0,0))) (L.set q (aC bg 1 3 vd (dk.toList.map Subtype.val))):=by
  subst hv;refine o.set q hq (r':=aC bg 1 3 _ (dk.toList.map Subtype.val)) (bN.bG (S:=(aC bg 1 3 _ xs).F) _ _ rfl) ⟨bl,.inr ⟨cap,rest,?_,aqK hlt,?_,?_⟩⟩ λd hd=>⟨.inl hd,?_⟩
  .rw[hlen]
  .rw[hlen];exact hr
  .rw[hlen];exact hc
  .rw[iM];exact(show d=bl from hd)▸hlt
 refine o2.more ⟨aP,λb hb' _=> ?_⟩;rw[ue hb']
def grown_of{P:Program}{g:FuncId}{args:Array Value}{W:World}{z:Int}(hc:aF P g args W.heap λv h''=>v=I z/\Ext W.heap h''):
  Calls P g args W λe w'=>e=.returned (.int .i64 z)/\∃q os',w'=Go.Sort.grow (W.drewN q) os':=by
 refine callsIn_wide.1 ((hc.2 _ rfl).mono ?_);rintro e w' ⟨v,rfl,a,rfl,hx⟩;refine⟨rfl,w'.drawn-W.drawn,w'.heap.extract W.heap.size w'.heap.size,?_⟩;have b:=a.drawn;have h1:=a.os;have h2:=a.output;have h3:=a.tape;have hsz:=hx.size;have eh:w'.heap=W.heap++w'.heap.extract W.heap.size w'.heap.size:=by
  apply E6;intro k;by_cases hk:k<W.heap.size
  .rw[ue hk];exact hx.same k hk (λh=>h)
  .rw[Array.getElem?_append_right aa,Array.getElem?_extract];by_cases hk2:k<w'.heap.size
   .rw[aW aa];congr 1;omega
   .rw[aQ aa];exact Array.getElem?_eq_none aa
 have e2:w'={W with heap:=w'.heap,drawn:=w'.drawn}:=by cases w';cases W;simp only at h1 h2 h3;subst h1 h2 h3;rfl
 rw[e2];show _=({W with drawn:=W.drawn+_,heap:=W.heap++_}:World);rw[<-eh];congr 1;show w'.drawn=W.drawn+(w'.drawn-W.drawn);omega
def akY{n q c:Nat}{cb:Array Value}{cf:Nat->Nat->Int}(o:Own h0 h L)(hq:L[q]? =some (aC bg 1 3 vd xs))(hn:∀x∈xs,x<n)(hne:xs≠ [])(hl:xs.length<2^40)
  (p:∀v w,v<n->w<n->(cf v w<0↔fJ f w v=true))
  (hC:∀(ys:List Nat)(h':af)(v w:Nat)(K':KT),v<n->w<n->Own h0 h' (L.set q (aC bg 1 3 vd ys))->(∀h'',Ext h' h''->K' (I (cf v w)) h'')->aX prog (.func (.func c) #[] cb) [I v,I w].toArray h' K')
  (hK:∀h',Own h0 h' (L.set q (aC bg 1 3 vd (ir f xs)))->K (.tuple #[]) h'):ah prog 347 [vd,.func (.func c) #[] cb] h K:=by
 obtain⟨x0,hx0⟩:∃x,x∈xs:=EW xs hne;have inst:Inhabited {v:Nat//v<n}:=⟨⟨x0,hn x0 hx0⟩⟩;refine aK ⟨bn,λw hw=> ?_⟩;obtain⟨bl,H⟩:=o.get q hq;rcases H with ⟨_,e⟩|⟨cap,rest,hv,hb,hr,hc⟩
 .exact absurd e hne
 have g:∀v w:{v:Nat//v<n},cf v.1 w.1<0↔fJ f w.1 v.1=true:=λv w=>p _ _ v.2 w.2;generalize hd:(xs.pmap (λx h=>(⟨x,h⟩:{v:Nat//v<n})) hn).toArray=d;have hds:d.size=xs.length:=by rw[<-hd];simp
 have k:d.toList.map Subtype.val=xs:=by rw[<-hd];simp[List.map_pmap]
 have l:∀(ys:List Nat)(h':af)(v w:Nat),v<n->w<n->Own h0 h' (L.set q (aC bg 1 3 vd ys))->aF prog c (#[I v,I w]++cb) h' λz h''=>z=I (cf v w)/\Ext h' h'':=by intro ys h' v w hv hw o';have :=hC ys h' v w (λz h''=>z=I (cf v w)/\Ext h' h'') hv hw o' λh'' x=>⟨rfl,x⟩;have e:(#[]++ [I (v:Int),I (w:Int)].toArray++cb:Array Value)= #[I v,I w]++cb:=aP;have this:aF prog c (#[]++ [I (v:Int),I (w:Int)].toArray++cb) h' λz h''=>z=I (cf v w)/\Ext h' h'':=this;rwa[e]at this
 have start:Own h0 h (L.set q (aC bg 1 3 vd xs)):=by
  have :L.set q (aC bg 1 3 vd xs)=L:=by
   apply nK;intro i;by_cases e:q=i
   .subst e;rw[jo (fu.1 hq).1,hq]
   .rw[gD e]
  rw[this];exact o
 have r:jQ prog c=true:=(l xs h x0 x0 (hn x0 hx0) (hn x0 hx0) start).1;have hit:=Any.slices_SortFunc (P:=prog) Tryz.akR (qR n) (λ_=>rfl) (λv w=>cf v.1 w.1) ⟨λx=> ?_,λx y z h1 h2=> ?_,λx y z h1 h2=> ?_⟩ c cb bl 0 cap d w (λargs w=>WL r args w) (λm os dk hs x y=> ?_) (λj hj=> ?_) (by rw[hw];exact eY hb) aa
 .have e1:[vd,Value.func (.func c) #[] cb].toArray= #[.slice (some ⟨bl,0,none⟩) d.size cap,.func (.func c) #[] cb]:=by rw[hv,hds]
  rw[e1];have s:CallsIn Fence.wide 0 prog 347 #[.slice (some ⟨bl,0,none⟩) d.size cap,.func (.func c) #[] cb] w λe w'=>e=.returned (.tuple #[])/\∃d' m os,Go.Sort.PermIn 0 d.size d d'/\Go.Sort.SortedIn (ltOf λ(v w:{v:Nat//v<n})=>cf v.1 w.1) 0 d.size d'/\w'=sortWorld (qR n) w bl 0 m d' os:=callsIn_wide.2 hit;refine s.mono λe w'⟨he,d',m,os,hp,hs,hw'⟩=> ?_
  .subst hw';refine⟨_,he,⟨rfl,rfl,rfl,EM _ _⟩,hK _ ?_⟩;have hs':d'.size=xs.length:=hp.1.trans hds;have :=WQ o hq hv hb hr hc w hw m d' os hs';have e2:d'.toList.map Subtype.val=ir f xs:=by
    refine WN (le:=λa b=>fJ f a b=false) (λa b h1 h2=> ?_) (List.Perm.trans (?_:(d'.toList.map Subtype.val).Perm xs) Aj.symm) ?_ akr
    .unfold fJ at h1 h2;rw[uk]at h1 h2;omega
    .have :=hp.2.2;have x1:(d'.extract 0 d.size).toList=d'.toList:=by rw[<-hp.1];simp
     have x2:(d.extract 0 d.size).toList=d.toList:=aP;rw[x1,x2]at this;have :=this.map Subtype.val;rwa[k]at this
    .rw[uj];intro i j hi hj hij;have hi':i<d'.size:=by simpa using hi
     have hj':j<d'.size:=by simpa using hj
     have h3:=hs i j (fE _) hij aa;unfold ltOf at h3;rw[uk,g,yP d' i hi',yP d' j hj']at h3;simpa using h3
   rw[e2]at this;exact this
 .unfold ltOf;rw[uk,g];unfold fJ;simp
 .unfold ltOf at h1 h2 |-;rw[gT,g]at h1 h2 |-;unfold fJ at h1 h2 |-;rw[gT]at h1 h2 |-;omega
 .unfold ltOf at h1 h2 |-;rw[uk,g]at h1 h2 |-;unfold fJ at h1 h2 |-;rw[gT]at h1 h2 |-;omega
 .have o2:=WQ o hq hv hb hr hc w hw m dk os (hs.trans hds);have :=l _ _ x.1 y.1 x.2 y.2 o2;clear o2;show Calls prog c (#[I (x.1:Int),I (y.1:Int)]++cb) _ _;generalize sortWorld (qR n) w bl 0 m dk os=W at this |-;exact grown_of this
 .have hj':j<xs.length:=aa;have hrow:(Mh.row bg xs++rest)[j]? =some (I ((xs[j]:Nat):Int)):=by
   rw[Il,aqM (by simpa using hj'),pK,dD hj'];rfl
  have hdj:(d[j]!).1=xs[j]:=by
   rw[yP d j hj];have :(d.toList.map Subtype.val)[j]? =some xs[j]:=by rw[k,dD hj']
   simpa[hj]using this
  refine⟨?_,?_⟩
  .show hcell w.heap ⟨bl,0+j,none⟩=some (qR n d[j]!);unfold hcell;rw[hw];simp only[hb,bE,mP,hrow];unfold qR;rw[hdj];rfl
  .show rH w.heap ⟨bl,0+j,none⟩=false;unfold rH;rw[hw];simp only[hb];simp
end
section
variable{h0 h:af}{L:List aS}{K:KT}{g:G}{vd cv:Value}{f:Nat->Int}{xs:List Nat}
def ak4{s:ByteArray}{i:Nat}{k:IntKind}{K:Value->Prop}(hi:i<s.size)(hK:∀b:Int,K (.int .u8 b)):mT (.string s) (.int k i) K:=by refine⟨aa,?_⟩;rw[fL,getElem?_pos s i hi];exact hK _
def ak5{n:Nat}(hn:n<256)(hK:∀z:Int,K (I z) h):ah prog 385 [.int .u64 n] h K:=by
 refine aK (ai6 ?_);unfold Vj;refine aK (ajk ?_);unfold VF HO HN HK;rw[dA,bR aa,aO,dA,bR aa,aO,dA,bR aa,aO];rw[fG,show IntKind.u8.wrap (n:Int)=(n:Int)from F8 (show(0:Int)<=n by omega) (show(n:Int)<=255 by omega)];refine ak4 ?_ λb=> ?_
 .refine Nat.lt_of_lt_of_eq hn (Eq.symm ?_)
  kernel_rfl
 .rw[fG,bw];exact hK _
def ak6{n q:Nat}{lim:Value}(o:Own h0 h L)(hq:L[q]? =some (aC bg 1 3 vd xs))(hn:∀x∈xs,x<n)(hl:xs.length<=12)
  (hC:∀(ys:List Nat)(h':af)(v w:Nat)(K':KT),v<n->w<n->Own h0 h' (L.set q (aC bg 1 3 vd ys))->(∀(z:Int) h'',Own h0 h'' (L.set q (aC bg 1 3 vd ys))->(z<0↔fJ f w v=true)->K' (I z) h'')->aX prog cv [I v,I w].toArray h' K')
  (hK:∀h',Own h0 h' (L.set q (aC bg 1 3 vd (ir f xs)))->K (.tuple #[]) h'):ah prog 384 [vd,I (0:Nat),I xs.length,lim,cv] h K:=by
 refine aK (ai5 ?_);unfold Vi;refine bV 0 (λ_ x h'=>x.1=I (0:Nat)/\x.2.1=I xs.length/\h'=h) ⟨rfl,rfl,rfl⟩ ?_;rintro i ⟨x,y,z,b1,b2,⟨⟩⟩ h' Z hi ⟨hx,hy,rfl⟩ hZ;dsimp only at hx hy |-;subst hx hy;unfold Vh;rw[fc,bK aa aa,lS,bT aa,bF];exact akJ o hq hn aa hC hK
def ak7{n q:Nat}(o:Own h0 h L)(hq:L[q]? =some (aC bg 1 3 vd xs))(hn:∀x∈xs,x<n)(hl:xs.length<=12)
  (hC:∀(ys:List Nat)(h':af)(v w:Nat)(K':KT),v<n->w<n->Own h0 h' (L.set q (aC bg 1 3 vd ys))->(∀(z:Int) h'',Own h0 h'' (L.set q (aC bg 1 3 vd ys))->(z<0↔fJ f w v=true)->K' (I z) h'')->aX prog cv [I v,I w].toArray h' K')
  (hK:∀h',Own h0 h' (L.set q (aC bg 1 3 vd (ir f xs)))->K (.tuple #[]) h'):ah prog 347 [vd,cv] h K:=by
 refine aK (air ?_);unfold Ux;refine(o.vw q hq).len ?_;rw[fG,HU aa aa];refine ak5 aa λz=> ?_;exact ak6 o hq hn hl hC hK
def ak8{n q a:Nat}{cb:Array Value}{cf:Nat->Nat->Int}(o:Own h0 h L)(hq:L[q]? =some (aC bg 1 3 vd xs))(hn:∀x∈xs,x<n)(hl:xs.length<2^40)
  (b:∀v w,v<n->w<n->(cf v w<0↔fJ f w v=true))
  (hC:∀(ys:List Nat)(h':af)(v w:Nat)(K':KT),v<n->w<n->Own h0 h' (L.set q (aC bg 1 3 vd ys))->(∀h'',Ext h' h''->K' (I (cf v w)) h'')->aX prog (.func (.func a) #[] cb) [I v,I w].toArray h' K')
  (hK:∀h',Own h0 h' (L.set q (aC bg 1 3 vd (ir f xs)))->K (.tuple #[]) h'):ah prog 347 [vd,.func (.func a) #[] cb] h K:=by
 by_cases h12:xs.length<=12
 .exact ak7 o hq hn h12 (λys h' v w K' hv hw o' hk=>hC ys h' v w K' hv hw o' λh'' x=>hk _ h'' (o'.more x) (b v w hv hw)) hK
 .exact akY o hq hn (λe=>by rw[e]at h12;exact h12 (fE _)) hl b hC hK
def ak9{s:Nat}{vo:Value}{l:List Nat}(o:Own h0 h L)(i:Nat)(hi:L[i]? =some (ak s [vo] 43))(hv:∀h',Own h0 h' L->Vw bg 1 h' vo l)(hl:l.length<2^40)
  (hK:∀w h',Own h0 h' (aC bg 1 3 w l::L)->K w h'):ah prog 29 [.func (.func 341) #[] #[ptr s]] h K:=by
 refine aK (Gy ?_);unfold Cz;refine aK (GH ?_);unfold CL;refine o.box λs2 h1 o1=> ?_;have o2:Own h0 h1 (aC bg 1 3 (.slice none 0 0) (l.take 0)::ak s2 [.slice none 0 0] 43::L):=Own.ef (enc:=bg) (n:=1) (T:=3) o1;refine o2.range (Ih (O:=l) (vo:=vo) (b:=s) (T:=43) hl) (by rintro i x i' ⟨_,_,rfl⟩;rfl)
  (λj Rs=>j<=l.length/\∃w,Rs=aC bg 1 3 w (l.take j)::ak s2 [w] 43::L) (λ_=>False) (λ_ _=>False) ⟨fE _,_,rfl⟩ ?_ ?_ ?_ (λ_ _ h=>h.elim) (λ_ _ _ h=>h.elim)
 .rintro j Rs h' ⟨_,w,rfl⟩ o';exact⟨o'.get (i+2) hi,hv _ o'.tail.tail⟩
 .rintro M j x j' Rs Pr h' R ⟨d,rfl,rfl⟩ ⟨_,w,rfl⟩ o' hN _ _;dsimp only[gh];unfold CK;refine o'.begin 0 rfl λh4 c=> ?_;have c:Own h0 h4 (cD _ _::cw _::aC bg 1 3 w (l.take j)::ak s2 [w] 43::(L++Pr)):=c;refine c.load 3 rfl rfl ?_;refine c.fH 2 (l.getD j 0) rfl rfl (bW rfl) (λ_=>rfl) qM rfl az (by rw[dO];omega) λw' h5 e=> ?_;have hw':=e.vw 2 rfl;refine e.bu 3 (cs':=[w']) rfl rfl rfl hw'.one hw'.plain λh6 k=> ?_;refine hN _ h6 ⟨d,w',rfl⟩ ?_;rw[cW d,<-sg (a:=0) d];exact k
 .rintro j h' Rs rfl ⟨_,w,rfl⟩ o';rw[fF]at o';refine o'.load 2 rfl rfl (o'.jV 0 rfl λh10 m=>hK w h10 ?_);exact m.tail.front 2 [0] az az
def ala{n s a:Nat}{cb:Array Value}{cf:Nat->Nat->Int}{vo:Value}{l:List Nat}(o:Own h0 h L)(i:Nat)(hi:L[i]? =some (ak s [vo] 43))(hv:∀h',Own h0 h' L->Vw bg 1 h' vo l)(hl:l.length<2^40)(hn:∀x∈l,x<n)
  (b:∀v w,v<n->w<n->(cf v w<0↔fJ f w v=true))
  (hC:∀(R:aS)(h':af)(v w:Nat)(K':KT),v<n->w<n->Own h0 h' (R::L)->(∀h'',Ext h' h''->K' (I (cf v w)) h'')->aX prog (.func (.func a) #[] cb) [I v,I w].toArray h' K')
  (hK:∀w h',Own h0 h' (aC bg 1 3 w (ir f l)::L)->K w h'):ah prog 253 [.func (.func 341) #[] #[ptr s],.func (.func a) #[] cb] h K:=by
 refine aK (agO ?_);unfold SC;refine ak9 o i hi hv hl λw h1 o1=> ?_;refine ak8 (f:=f) (n:=n) (q:=0) o1 rfl hn hl b (λys h' v w' K' hv hw o' hk=>hC _ h' v w' K' hv hw o' hk) λh2 o2=> ?_;exact hK w h2 o2
def n9(a b:Int):Int:=if a<b then -1 else if b<a then 1 else 0
def WR{a b:Int}(hK:K (I (n9 a b)) h):ah prog 256 [I a,I b] h K:=by refine aK (SG ?_);unfold SF;refine aK (Ht ?_);unfold C5;rw[fe,iK];refine aK (Ht ?_);unfold C5;rw[fe,iK];dsimp only;rw[aO,aO];unfold n9 at hK;rw[bC,bA];refine⟨λc=>by rw[aW c]at hK;exact hK,λc=> ?_⟩;rw[aQ c]at hK;rw[akS,bA];exact⟨λc=>by rw[aW c]at hK;exact hK,λc=>by rw[aQ c]at hK;exact hK⟩
def alb{a b:Int}(hK:K (I (n9 a b)) h):ah prog 257 [I a,I b] h K:=by refine aK (SJ ?_);unfold SH;refine aK (Hu ?_);unfold C6;rw[fe,iK];refine aK (Hu ?_);unfold C6;rw[fe,iK];dsimp only;rw[aO,aO];unfold n9 at hK;rw[bC,bA];refine⟨λc=>by rw[aW c]at hK;exact hK,λc=> ?_⟩;rw[aQ c]at hK;rw[akS,bA];exact⟨λc=>by rw[aW c]at hK;exact hK,λc=>by rw[aQ c]at hK;exact hK⟩
def alc{a b:Int}{vs:Value}(c:Vw aJ 1 h vs [a,b])(hK:K (I (if a≠0 then a else b)) h):ah prog 255 [vs] h K:=by
 refine aK (SE ?_);unfold G9;refine c.len ?_;refine bV 2 (λi x h'=>x.1=I i/\h'=h/\(1<=i->a=0)/\(2<=i->b=0)) ⟨rfl,rfl,λh=>aa,λh=>aa⟩ ?_;rintro i ⟨x,⟨⟩⟩ h' Z hi ⟨hx,rfl,h1,h2⟩ hZ;dsimp only at hx hZ |-;subst hx;unfold G8;rw[bC,bA];have d:([a,b]:List Int).length=2:=rfl;refine⟨λhlt=> ?_,λhge=> ?_⟩
 .rcases(show i=0\/i=1 by omega)with rfl|rfl
  .refine c.Im (i:=0) (Nat.zero_lt_succ _) ?_;show aq .neq (I a) _ _;rw[fe];by_cases ha:a=0
   .rw[show(a != 0)=false by simpa using ha,aO,bw,wI 0 az];exact hZ (_,()) _ az ⟨rfl,rfl,λ_=>ha,λh=>aa⟩
   .rw[show(a != 0)=true by simpa using ha,bF];rw[aW ha]at hK;exact hK
  .refine c.Im (i:=1) (EV 1) ?_;show aq .neq (I b) _ _;rw[fe];have ha:=h1 (cq _);rw[aQ (λh=>h ha)]at hK;by_cases hb:b=0
   .rw[show(b != 0)=false by simpa using hb,aO,bw,wI 1 az];exact hZ (_,()) _ az ⟨rfl,rfl,λ_=>ha,λ_=>hb⟩
   .rw[show(b != 0)=true by simpa using hb,bF];exact hK
 .have ha:=h1 aa;have hb:=h2 aa;rw[aQ (λh=>h ha),hb]at hK;exact hK
def ald{x y:Int}{v w:Nat}:(if n9 x y≠0 then n9 x y else n9 (v:Int) (w:Int))<0↔x<y\/(y=x/\v<w):=by
 unfold n9;rcases Int.lt_trichotomy x y with h|h|h
 .rw[aW h,aW az];exact⟨λ_=>.inl h,λ_=>az⟩
 .subst h;rw[aQ (EZ _),aQ (EZ _),aQ (λh=>h rfl)];split
  .exact⟨λ_=>.inr ⟨rfl,aa⟩,λ_=>az⟩
  .split
   .exact⟨λh=>absurd h az,λh=>aa⟩
   .exact⟨λh=>absurd h az,λh=>aa⟩
 .have hn:¬x<y:=aa;rw[aQ hn,aW h,aW az];exact⟨λh=>absurd h az,λh=>aa⟩
def DA(g:G)(d v w:Nat):Int:=if n9 (fP g d v) (fP g d w)≠0 then n9 (fP g d v) (fP g d w)else n9 v w
def ale{d v w:Nat}:DA g d v w<0↔fJ (fP g d) w v=true:=by unfold fJ DA;rw[gT];exact ald
def alf{p p2 tl vb r d v w:Nat}{pc:List Value}(o:Own h0 h L)(a i j k:Nat)(ha:L[a]? =some (ak vb [Al p2 tl] 369))(hi:L[i]? =some (ak tl [fK d] 446))(hj:L[j]? =some (ak p2 [ptr p] 233))(hk:L[k]? =some (ak p (ptr r::pc) 235))
  (hR:g.Right) (hN:bX h r g) (hd:d<4) (hv:v<g.n) (hw:w<g.n) (hK:∀h',Ext h h'->K (I (DA g d v w)) h'):aX prog (.func (.func 254) #[] #[ptr vb]) [I v,I w].toArray h K:=by
 refine cg (l:=[I v,I w,ptr vb]) rfl (agP ?_);unfold SD;refine o.load a ha rfl (o.load a ha rfl ?_);refine Ig o i j k hi hj hk hR hN hd hv ⟨o.load a ha rfl rfl,?_⟩;refine Ig o i j k hi hj hk hR hN hd hw ?_;refine WR (alb ?_);refine(Own.start h).build (enc:=aJ) (n:=1) [n9 (fP g d v) (fP g d w),n9 v w] rfl (bW rfl) rfl λvs h1 o1=> ?_;refine alc (o1.vw 0 rfl) ?_;exact hK h1 o1.ext
end
def WS{a b:Nat}:((a:Int)).tdiv (b:Int)=((a/b:Nat):Int):=rfl
def alg{c:Int}{l:List Nat}{v:Nat}{out:List Int}:lB c (l++ [v]) out=(lB c l out).set v c:=by simp[lB]
section
variable{g:G}{r:Nat}
def Io{N:aS}(hR:g.Right)(hN:rY N r g):∀{k c nx p q nq:Nat}{h0 h:af}{L:List aS}{K:KT}{vl vc vp:Value}{l ys:List Nat}{out:List Int},
  Own h0 h (ak p [ptr r,vc,I nx] 235::aC aJ 1 3 vc out::L)->L[nq]? =some N->L[q]? =some (aC bg 1 3 vp ys)->(∀h',Vw bg 1 h' vp ys->Vw bg 1 h' vl l)->
  (∀x∈l,x<g.n)->l.length<=16777216->out.length=g.n->1<=c->c<=k->c<=256->nx+c<=2^40->
  (∀h',Own h0 h' (ak p [ptr r,vc,I (nx+c:Nat)] 235::aC aJ 1 3 vc (kK (jh g k c l) nx out)::L)->K (.tuple #[]) h')->ah prog 136 [ptr p,vl,I c] h K
 |0,c,nx,p,q,nq,h0,h,L,K,vl,vc,vp,l,ys,out,o,y,hq,hsub,z,hl,C,hc1,P,hc,Q,hK=>aa
 | k+1,c,nx,p,q,nq,h0,h,L,K,vl,vc,vp,l,ys,out,o,y,hq,hsub,z,hl,C,hc1,P,hc,Q,hK=>by
  refine aK (ae0 ?_);unfold PD;refine o.box λp3 h1 o1=> ?_;have o1:Own h0 h1 (ak p3 [ptr p] 233::ak p [ptr r,vc,I nx] 235::aC aJ 1 3 vc out::L):=o1;rw[cF,kD];refine⟨λe=> ?_,λe=> ?_⟩
  .have e1:c=1:=aa;subst e1;have u:kK (jh g (k+1) 1 l) nx out=lB nx l out:=by unfold jh;rw[aW rfl];rfl
   rw[u]at hK;refine(hsub _ (o1.vw (q+3) hq)).len ?_;refine bV l.length (λi x h'=>x.1=I i/\Own h0 h' (ak p3 [ptr p] 233::ak p [ptr r,vc,I nx] 235::aC aJ 1 3 vc (lB nx (l.take i) out)::L)) ⟨rfl,o1⟩ ?_;clear o1 o;rintro i ⟨x,⟨⟩⟩ h2 Z hi ⟨hx,o⟩ hZ;dsimp only at hx hZ |-;subst hx;unfold PC;rw[bC,bA];refine⟨λhlt=> ?_,λhge=> ?_⟩
   .have hlt:i<l.length:=aa;refine(hsub _ (o.vw (q+3) hq)).dU (e:=λ(x:Nat)=>I x) (λ_=>rfl) hlt ?_;refine o.load 0 rfl rfl ?_;simp only[bD,aU];refine o.load 1 rfl rfl (o.load 0 rfl rfl ?_);simp only[bD,aU];refine o.load 1 rfl rfl ?_;refine o.jD 2 rfl (by rw[xL,C];exact z _ (cu hlt)) λh3 t=> ?_;rw[bw,wI i aa];refine hZ (_,()) h3 hlt ⟨rfl,?_⟩;rw[cW hlt,alg];exact t
   .have :i=l.length:=aa;subst this;rw[fF]at o;refine agL (ptr p3) ?_;unfold Sy;refine o.load 0 rfl rfl ?_;simp only[bD,aU];refine o.load 1 rfl rfl ?_;rw[bw,wI nx aa];refine o.bu 1 (cs':=[ptr r,vc,I (nx+1:Nat)]) rfl rfl rfl rfl rfl λh3 t=> ?_;exact hK h3 t.tail
  .have S:2<=c:=aa;obtain⟨hd,_,_⟩:=@akx g l;have u:jh g (k+1) c l=jh g k (c/2) ((ir (fP g (oU g l).1) l).take (l.length*(c/2)/c))++jh g k (c-c/2) ((ir (fP g (oU g l).1) l).drop (l.length*(c/2)/c)):=by
    conv=>lhs;unfold jh
    rw[aQ aa]
   refine o1.load 0 rfl rfl ?_;refine akE o1 1 rfl hR (λh' x=>hN _ ((o1.more x).get (nq+3) y)) (hsub _ (o1.vw (q+3) hq)) aa z λh2 o2 _=> ?_;clear o1 o;simp only[cC,cB];refine o2.load 0 rfl rfl ?_;refine WD o2 hd λp2 tl h3 t _=> ?_;generalize (oU g l).1=d at hd u t;refine t.box λvb h4 J=>J.bu 0 (cs':=[Al p2 tl]) rfl rfl rfl rfl rfl λh5 A=> ?_;have A:Own h0 h5 (ak vb [Al p2 tl] 369::ak tl [fK d] 446::ak p2 [ptr p] 233::ak p3 [ptr p] 233::ak p [ptr r,vc,I nx] 235::aC aJ 1 3 vc out::L):=A;clear J t o2;refine Ii A (hsub _ (A.vw (q+6) hq)) λs h6 M=> ?_;refine ala (f:=fP g d) (n:=g.n) (cf:=DA g d) M 0 rfl (λh' o'=>hsub _ (o'.vw (q+7) hq)) aa z (λv w _ _=>ale) (λR h' v w K' hv hw o' hk=>alf o' 2 3 4 6 rfl rfl rfl rfl hR (hN _ (o'.get (nq+8) y)) hd hv hw hk) λw h7 D=> ?_;have ol:(ir (fP g d) l).length=l.length:=Wv;have E:∀x∈ir (fP g d) l,x<g.n:=λx hx=>z x (Aj.mem_iff.1 hx);have hh:=aks (m:=l.length) S;generalize ir (fP g d) l=O at D ol E u;have B:Own h0 h7 (ak p [ptr r,vc,I nx] 235::aC aJ 1 3 vc out::aC bg 1 3 w O::ak p3 [ptr p] 233::L):=D.front 8 [6,7,0,5] az az;clear D M A;refine(B.vw 2 rfl).len ?_;rw[ol];have q2:((c:Int)).tdiv 2=((c/2:Nat):Int):=WS (b:=2);have hmul:l.length*(c/2)<=16777216*128:=nM hl aa;rw[pX];refine⟨az,?_⟩;rw[q2,bK aa aa,iO,show((l.length:Int)*((c/2:Nat):Int))=((l.length*(c/2):Nat):Int) by simp,bK aa aa,pX];refine⟨aa,?_⟩;rw[WS];generalize l.length*(c/2)/c=H at hh u |-;rw[bK aa aa];refine B.load 3 rfl rfl ?_;refine(B.vw 2 rfl).xN (a:=0) (j:=H) uV rfl rfl aa aa λw1 hw1=> ?_;rw[pX];refine⟨az,?_⟩;rw[q2,bK aa aa];rw[u,Ww,Dw aa aa]at hK;refine Io hR hN (k:=k) (c:=c/2) (q:=0) (nq:=nq+2) (L:=aC bg 1 3 w O::ak p3 [ptr p] 233::L) (l:=O.take H) B y rfl (λh' H'=>by have :=hw1 h' H';rwa[ox,jl]at this) (λx hx=>E x (lK hx)) (by rw[dO];omega) C aa aa aa aa λh8 F=> ?_;clear B;refine F.load 3 rfl rfl ?_;refine(F.vw 2 rfl).xN (a:=H) (j:=O.length) uV rfl rfl aa (cq _) λw2 T=> ?_;rw[pX];refine⟨az,?_⟩;rw[q2,bK aa aa,fc,show(c:Int)-((c/2:Nat):Int)=((c-c/2:Nat):Int) by omega,bK aa aa];refine Io hR hN (k:=k) (c:=c-c/2) (q:=0) (nq:=nq+2) (L:=aC bg 1 3 w O::ak p3 [ptr p] 233::L) (l:=O.drop H) F y rfl (λh' H'=>by have :=T h' H';rwa[fM (by rw[sK];exact cq _)]at this) (λx hx=>E x (BB hx)) (by rw[sK];omega) (by rw[Ic];exact C) aa aa aa aa λh9 U=> ?_;refine hK h9 ?_;rw[show nx+c=nx+c/2+(c-c/2) by omega];exact U.front 4 [0,1] az az
variable{h0 h:af}{L:List aS}{K:KT}{N:aS}{vl:Value}
def Ip(g:G)(z:Int):List Int:=if 1<=z/\z<=256 then vv g z.toNat else[]
def alh{z:Int}{nq:Nat}(o:Own h0 h L)(hq:L[nq]? =some N)(hN:rY N r g)(hR:g.Right)(hK:∀w h',Own h0 h' (aC aJ 1 3 w (Ip g z)::L)->K w h'):ah prog 65 [ptr r,I z] h K:=by
 have hn:=hR.most;refine aK (adT ?_);unfold NV CD;simp only[dM,dW,aO];unfold Ip at hK;rw[bC,bA];refine⟨λc=> ?_,λc1=> ?_⟩
 .rw[aQ aa]at hK;exact hK _ h o.ef
 rw[akS,bA];refine⟨λc=> ?_,λc2=> ?_⟩
 .rw[aQ aa]at hK;exact hK _ h o.ef
 rw[aW aa]at hK;obtain⟨c,rfl⟩:∃c:Nat,z=c:=iX aa;rw[fL]at hK;refine dV (hN _ (o.get nq hq)) ?_;refine o.make (enc:=aJ) (n:=1) (a:=0) (m:=g.n) rfl aa aa λd h1 o1=> ?_;have hw:=o1.vw 0 rfl;refine cE (cs':=[ptr r,d,I (0:Nat)]) (λp hp=>by
  simp at hp;rcases hp with rfl|rfl
  .rfl
  .exact hw.one) rfl rfl ?_
 refine o1.box λp h2 o2=> ?_;rw[show(Value.cells (.agg [ptr r,d,I (0:Nat)].toArray)).toList=[ptr r,d,I (0:Nat)] by simp[Value.cells,hw.one]]at o2;refine dV (hN _ (o2.get (nq+2) hq)) ?_;refine o2.make (enc:=bg) (n:=1) (a:=(0:Nat)) (m:=g.n) rfl aa aa λf h3 b=> ?_;clear o2 o1;refine(b.vw 0 rfl).len ?_;rw[nN];have j:∀i,i<=g.n->(List.range i++List.replicate (g.n-i) 0).length=g.n:=λi hi=>by rw[cG,gd,nN];omega
 refine bV g.n (λi x h'=>x.1=I i/\Own h0 h' (aC bg 1 3 f (List.range i++List.replicate (g.n-i) 0)::ak p [ptr r,d,I (0:Nat)] 235::aC aJ 1 3 d (List.replicate g.n 0)::L)) ⟨rfl,b⟩ ?_;clear b;rintro i ⟨x,⟨⟩⟩ h4 Z hi ⟨hx,b⟩ hZ;dsimp only at hx hZ |-;subst hx;unfold NU;rw[bC,bA];refine⟨λhlt=> ?_,λhge=> ?_⟩
 .have hlt:i<g.n:=aa;refine b.setAt (a:=i) 0 rfl (λ_=>rfl) (qM _) (by rw[j i hi];exact hlt) rfl λh5 e=> ?_;rw[bw,wI i aa];refine hZ (_,()) h5 hlt ⟨rfl,?_⟩;have :(List.range i++List.replicate (g.n-i) 0).set i i=List.range (i+1)++List.replicate (g.n-(i+1)) 0:=by
   rw[mG _ _ (by rw[gd];exact cq _),gd,iE,show g.n-i=(g.n-(i+1))+1 by omega,y5,y6,ku];simp
  rw[<-this];exact e
 .have :i=g.n:=aa;subst this;rw[iE,wq,eO]at b;refine Io hR hN (k:=c) (c:=c) (nx:=0) (q:=0) (nq:=nq+1) (L:=aC bg 1 3 f (List.range g.n)::L) (b.front 3 [1,2,0] az az) hq rfl (λh' H'=>H') (λx hx=>jw.1 hx) (by rw[gd];exact hn) (by rw[nN]) aa (cq _) aa aa λh5 e=> ?_;simp only[bD,aU];refine e.load 0 rfl rfl ?_;exact hK d h5 (e.front 3 [1] az az)
def xO{xs:List Int}{s:Value}(o:Own h0 h L)(H:Vw aJ 1 h s xs)(hl:xs.length<=2^40)(hK:∀v' h',Own h0 h' (aC aJ 1 3 v' xs::L)->K v' h'):ah prog 53 [s] h K:=aK (Nz (Db o H (λ_=>rfl) jb rfl az aa hK))
end
structure Row where
 b:Option Addr
 len:Nat
 cap:Nat
 l:List Int
def Row.v(r:Row):Value:=.slice r.b r.len r.cap
def iu(r:Row):List Value:=[r.v]
def DB(r:Row):∀u∈iu r,Mh.plainCell u=true:=by intro u hu;simp[iu]at hu;subst hu;rfl
section
variable{h0 h:af}{L:List aS}{K:KT}{g:G}{r n2 s5:Nat}{v:Value}{ms:List Nat}{D:Int->List Int}
def WT{a:Value}{l:List Value}{K:Value->Prop}(hk:K a):oD 0 (.agg (a::l).toArray) K:=by simpa[oD]using hk
def oa(h:af)(v:Value)(ds:List (List Int)):Prop:=∃ps:List Row,ps.map (·.l)=ds/\Vw iu 1 h v ps/\∀p∈ps,Vw aJ 1 h p.v p.l
def oa.more{h':af}{ds:List (List Int)}(H:oa h v ds)(x:Ext h h'):oa h' v ds:=by obtain⟨ps,a,b,c⟩:=H;exact⟨ps,a,b.more x,λp hp=>(c p hp).more x⟩
def Iq(fv:Value)(r:Nat)(g:G)(D:Int->List Int):Prop:=∀(h:af)(K:KT)(z:Int),bX h r g->(∀sd sa so h',Own h h' [xR sd (D z)]->K (.agg #[sd,sa,so]) h')->aX prog fv [ptr r,I z].toArray h K
def ali(hR:g.Right):Iq (.func (.func 56) #[] #[]) r g λz=>(g.toI z).aM:=λh K z hN hK=>Ib hR hN λsd sa so h' o=>hK sd sa so h' (o.bh [0] az)
def alj(hR:g.Right):Iq (.func (.func 9) #[] #[]) r g λz=>(g.cU z).aM:=λh K z hN hK=>Ai hR hN λsd sa so h' o=>hK sd sa so h' (o.bh [0] az)
def WU{m4 r5 n3:Nat}{fv:Value}{T1 T2 T3:TypeId}(hF:Iq fv r g D)(hl:ms.length<2^40):Gh prog (.func (.func 124) #[] #[ptr m4,ptr r5,ptr n3])
  (λh=>h[m4]? =some (.cells #[v] T1 (0,0))/\h[r5]? =some (.cells #[fv] T2 (0,0))/\h[n3]? =some (.cells #[ptr r] T3 (0,0))/\Vw aJ 1 h v (nI ms)/\bX h r g) (σ:=Nat) 0
  (λi x X i'=>∃hi:i<ms.length,∃sd,x=[sd]/\X=xR sd (D (ms.getD i 0:Nat))/\i'=i+1) (λi=>i=ms.length):=by
 rintro yv h0 h Rs K J E ⟨l,rfl⟩ o b hQ hY hK;refine jE (l:=[dS l,ptr m4,ptr r5,ptr n3]) rfl (aeK ?_);unfold Pg;obtain⟨q1,_,_,d,_⟩:=hQ _ _ _ b o;have d1:hcell h ⟨m4,0,none⟩=some v:=bz q1 rfl;refine bJ rfl d1 (d.len ?_);rw[dr];refine bV ms.length (λi x h'=>x.1=I i/\∃a,J i a/\Own h0 h' a) ⟨rfl,Rs,b,o⟩ ?_;rintro i ⟨x,⟨⟩⟩ h Z hi ⟨hx,a,hj,o⟩ hZ;dsimp only at hx hZ |-;subst hx;unfold Pf;simp only[bC,bA];refine⟨λhlt=> ?_,λhge=> ?_⟩
 .have hlt:i<ms.length:=aa;obtain⟨_,q2,f,j,k⟩:=hQ _ _ _ hj o;have d2:hcell h ⟨r5,0,none⟩=some fv:=bz q2 rfl;have d3:hcell h ⟨n3,0,none⟩=some (ptr r):=bz f rfl;refine j.Im (by rw[dr];exact hlt) (bJ rfl d2 (bJ rfl d3 ?_));have e:(nI ms)[i]'(by rw[dr];exact hlt)=((ms.getD i 0:Nat):Int):=by simp[nI,cI,hlt]
  rw[e];refine hF h _ _ k λsd sa so h1 o1=> ?_;refine WT ?_;have o2:=o.frame o1;refine hY i [sd] _ (i+1) a [] h1 _ ⟨hlt,sd,rfl,rfl,rfl⟩ hj ?_ (λc h'' hj' o'=> ?_) λc h'' he o'=> ?_
  .rw[eO];exact o2
  .rw[bP,cz,aO,bw,wI i aa];exact hZ (I (i+1:Nat),()) h'' hlt ⟨rfl,c,hj',o'.gi⟩
  .rw[bP,dL,bF];exact hK _ _ (.inr he) o'.gi
 .have :i=ms.length:=aa;exact hK _ _ (.inl ⟨i,this,hj⟩) o
def lD(v:Value)(ps:List Row):aS:=iq [aC iu 1 29 v ps,iq (ps.map λ(p:Row)=>xR p.v p.l)]
def DC{i:Nat}{ps:List Row}{ds:List (List Int)}(o:Own h0 h L)(hi:L[i]? =some (lD v ps))(hd:ps.map (·.l)=ds):oa h v ds:=by have o1:=o.out i hi;have o2:=o1.out 1 rfl;refine⟨ps,hd,o1.vw 0 rfl,λp hp=> ?_⟩;exact o2.zN (aqJ _ (cP.2 ⟨p,hp,rfl⟩))
def WV{fv:Value}{Q:af->Prop}{N:Nat}{f:Nat->List Int}{hN:N<2^40}(o:Own h0 h L)
  (hI:Gh prog fv Q (σ:=Nat) 0 (λi x X i'=>∃hi:i<N,∃sd,x=[sd]/\X=xR sd (f i)/\i'=i+1) (λi=>i=N)) (hQ:∀(Rs:List aS) h',Own h0 h' (Rs++L)->Q h')
  (hK:∀w ps h',ps.map (·.l)=(List.range N).map f->Own h0 h' (lD w ps::L)->K w h'):ah prog 54 [fv] h K:=by
 refine aK (adK ?_);unfold NA;refine aK (aeJ ?_);unfold Pe;refine o.box λs2 h1 o1=> ?_;have o2:Own h0 h1 (aC iu 1 29 (.slice none 0 0) ([]:List Row)::iq (([]:List Row).map λ(p:Row)=>xR p.v p.l)::ak s2 [.slice none 0 0] 128::L):=Own.ef (enc:=iu) (n:=1) (T:=29) (Own.sep (l:=[]) o1);refine o2.acj hI (by rintro s x X s' ⟨_,_,rfl,_⟩;rfl)
  (λs Rs=>s<=N/\∃w ps,ps.map (·.l)=(List.range s).map f/\Rs=aC iu 1 29 w ps::iq (ps.map λ(p:Row)=>xR p.v p.l)::ak s2 [w] 128::L) (λ_=>False) (λ_ _=>False) ⟨fE _,_,[],rfl,rfl⟩ ?_ ?_ ?_ (λ_ _ h=>h.elim) (λ_ _ _ h=>h.elim)
 .rintro s Rs h' ⟨_,w,ps,_,rfl⟩ o';exact hQ [_,_,_] h' o'
 .rintro M s x X s' Rs Pr h' R ⟨hlt,sd,rfl,rfl,rfl⟩ ⟨_,w,ps,hps,rfl⟩ o' e _ _;dsimp only[gh];unfold Pd;refine o'.begin 0 rfl λh4 a=> ?_;have a:Own h0 h4 (cD _ _::xR sd (f s)::cw _::aC iu 1 29 w ps::iq (ps.map λ(p:Row)=>xR p.v p.l)::ak s2 [w] 128::(L++Pr)):=a;obtain⟨sb,sc,rfl⟩:=(a.vw 1 rfl).kG;have hlen:ps.length=s:=by
   have :=eG List.length hps;simpa using this
  refine a.load 5 rfl rfl ?_;refine a.fH 3 (⟨sb,(f s).length,sc,f s⟩:Row) rfl rfl (bW rfl) (λ_=>rfl) DB rfl az aa λw' h5 d=> ?_;have hw':=d.vw 3 rfl;refine d.bu 5 (cs':=[w']) rfl rfl rfl hw'.one hw'.plain λh6 b=> ?_;have b:Own h0 h6 (cD _ _::xR (.slice sb (f s).length sc) (f s)::cw _::aC iu 1 29 w' (ps++ [(⟨sb,(f s).length,sc,f s⟩:Row)])::iq (ps.map λ(p:Row)=>xR p.v p.l)::ak s2 [w'] 128::(L++Pr)):=b;have c:=Own.Cl (Own.swap b) (j:=3) rfl;refine e (aC iu 1 29 w' (ps++ [(⟨sb,(f s).length,sc,f s⟩:Row)])::iq ((ps++ [(⟨sb,(f s).length,sc,f s⟩:Row)]).map λ(p:Row)=>xR p.v p.l)::ak s2 [w'] 128::L) h6 ⟨aa,w',_,?_,rfl⟩ ?_
  .rw[fq,hps,ku,fq];rfl
  .rw[fq];exact c
 .rintro s h' Rs rfl ⟨_,w,ps,hps,rfl⟩ o';refine o'.load 3 rfl rfl (o'.jV 0 rfl λh6 b=> ?_);have c:Own h0 h6 ([aC iu 1 29 w ps,iq (ps.map λ(p:Row)=>xR p.v p.l)]++(ak s2 [w] 128::L)):=b.tail;exact hK w ps h6 hps ((Own.sep c).erase 1)
end
section
variable{h0 h:af}{L:List aS}{K:KT}{g:G}{r t:Nat}{v:Value}{ms:List Nat}
def vz(l:List Nat):Int->Option Value:=λz=>if ∃m∈l,(m:Int)=z then some (I 1)else none
def alk{l:List Nat}{m:Nat}(h:m∈l):vz l m=some (I 1):=aW ⟨m,h,rfl⟩
def alm{l:List Nat}{m:Nat}(h:m∉l):vz l m=none:=aQ λ⟨x,hx,e⟩=>h (by rw[<-show x=m by omega];exact hx)
def aln{l:List Nat}{m:Nat}(x:Int):vz (l++ [m]) x=cM (vz l) m (I 1) x:=by
 show(if ∃y∈l++ [m],(y:Int)=x then some (I 1)else none)=if x=(m:Int)then some (I 1)else if ∃y∈l,(y:Int)=x then some (I 1)else none;by_cases e:x=(m:Int)
 .rw[aW e,aW ⟨m,aP,e.symm⟩]
 .rw[aQ e];by_cases hx:∃y∈l,(y:Int)=x
  .obtain⟨y,hy,a⟩:=hx;rw[aW ⟨y,aqJ _ hy,a⟩,aW ⟨y,hy,a⟩]
  .rw[aQ hx,aQ];rintro⟨y,hy,a⟩;rcases cS.1 hy with hy|hy
   .exact hx ⟨y,hy,a⟩
   .simp at hy;exact e (by rw[<-a,hy])
def WW{n:Nat}(H:Vw aJ 1 h v (nI ms))(hl:ms.length<=16)(hn:ms.Nodup)(hm:∀m∈ms,m<n)(hK:∀h',Ext h h'->K (.bool true) h'):ah prog 52 [I n,v] h K:=by
 refine aK (adI ?_);unfold Ny;refine(Own.start h).box λn2 h1 o1=>o1.mkMap λm h2 o2=>o2.box λs5 h3 b=>b.bu 0 (cs':=[.map (some m)]) rfl rfl rfl rfl rfl λh4 a=> ?_;have a:Own h h4 (ak s5 [.map (some m)] 170::eD m (vz (ms.take 0))::ak n2 [I n] 3:: []):=a;refine H.len ?_;rw[dr,lS,bT aa,bF];refine aK (Pc ?_);unfold GP;refine aK (G3 ?_);unfold CV;refine H.len ?_;rw[dr];refine bV ms.length (λi x h'=>x.1=I i/\Own h h' (ak s5 [.map (some m)] 170::eD m (vz (ms.take i))::ak n2 [I n] 3:: [])) ⟨rfl,a⟩ ?_;clear o1 o2 b a;rintro i ⟨x,⟨⟩⟩ h' Z hi ⟨hx,o'⟩ hZ;dsimp only at hx hZ |-;subst hx;unfold CU;simp only[bC,bA];refine⟨λhlt=> ?_,λhge=> ?_⟩
 .have hlt:i<ms.length:=aa;refine(H.more o'.ext).Im (by rw[dr];exact hlt) ?_;have e:(nI ms)[i]'(by rw[dr];exact hlt)=(ms[i]:Int):=by simp[nI]
  rw[e];refine cg (l:=[I ms[i],ptr s5,ptr n2]) rfl (aeI ?_);unfold Pb;have hout:ms[i]∉ms.take i:=λhmem=>by have h1:=hn;rw[<-iI i ms,kq,iD hlt]at h1;exact h1.2.2 _ hmem _ cN rfl
  refine o'.load 0 rfl rfl (o'.look 1 rfl ?_);rw[alm hout];simp only[gm,dN,mR];rw[bw,bK aa aa];refine o'.mZ 1 rfl (f':=vz (ms.take (i+1))) (λx=> ?_) λh2 o2=> ?_
  .rw[cW hlt,aln];rfl
  .have c:=hm _ (cu hlt);rw[bC,bR aa,aO];refine o2.load 2 rfl rfl ?_;rw[dA,bR aa,aO];refine o2.load 0 rfl rfl (o2.look 1 rfl ?_);rw[alk (show ms[i]∈ms.take (i+1) by rw[cW hlt];exact rF _ cN)];simp only[gm,dN,e8];rw[akS,bR aa,aO,bw,wI i aa];exact hZ (I (i+1:Nat),()) h2 hlt ⟨rfl,o2⟩
 .rw[dA,bR aa,bP,dL];exact hK h' o'.ext
def Ar(n:Nat)(mv tv fv:Value):List Value:=[I n,mv,tv,fv]
structure gG(h:af)(t:Nat)(g:G)(ms:List Nat):Prop where
 ex:∃mv tv fv,h[t]? =some (.cells (Ar g.n mv tv fv).toArray 134 (0,0))/\Vw aJ 1 h mv (nI ms)/\oa h tv (ms.map λ(m:Nat)=>(g.toI m).aM)/\oa h fv (ms.map λ(m:Nat)=>(g.cU m).aM)
def gG.more{h':af}(H:gG h t g ms)(x:Ext h h'):gG h' t g ms:=by obtain⟨mv,tv,fv,a,b,c,d⟩:=H.ex;exact⟨mv,tv,fv,x.get a,b.more x,c.more x,d.more x⟩
def vB(t:Nat)(n:Nat)(mv tv fv:Value)(ms:List Nat)(ps qs:List Row):List aS:=[ak t (Ar n mv tv fv) 134,aC aJ 1 3 mv (nI ms),lD tv ps,lD fv qs]
def DD{α β:Type}(l:List α)(f:α->β)(d:α):(List.range l.length).map (λi=>f (l.getD i d))=l.map f:=by
 apply iW aP;intro i h1 h2;have hi:i<l.length:=by simpa using h1
 simp[cI,hi]
def alo(o:Own h0 h L)(hp:Vw aJ 1 h v (nI ms))(hR:g.Right)(hN:bX h r g)(hl:ms.length<=16)(hn:ms.Nodup)(hm:∀m∈ms,m<g.n)
  (hK:∀t mv tv fv ps qs h',ps.map (·.l)=ms.map (λ(m:Nat)=>(g.toI m).aM)->qs.map (·.l)=ms.map (λ(m:Nat)=>(g.cU m).aM)->Own h0 h' (vB t g.n mv tv fv ms ps qs++L)->K (ptr t) h'):ah prog 16 [ptr r,v] h K:=by
 refine aK (ac9 ?_);unfold MO;simp only[dM,dW,aO];refine dV hN (WW hp hl hn hm λh1 x1=> ?_);rw[bP,cz,aO];refine dV (hN.more x1) ?_;refine xO ((Own.start h).more x1) (hp.more x1) (by rw[dr];omega) λmv h2 o2=> ?_;refine aK (NB ?_);unfold GA;refine o2.box λn3 h3 d=>d.box λm4 h4 e=>e.box λr5 h5 b=> ?_;have j:v.cells.toList=[v]:=by rw[hp.one]
 rw[j]at b;have hQ:∀(fv:Value)(n3 m4 r5:Nat)(Rs L':List aS)(h':af),Own h h' (Rs++(ak r5 [fv] 46::ak m4 [v] 43::ak n3 [ptr r] 47::L'))->
   h'[m4]? =some (.cells #[v] 43 (0,0))/\h'[r5]? =some (.cells #[fv] 46 (0,0))/\h'[n3]? =some (.cells #[ptr r] 47 (0,0))/\Vw aJ 1 h' v (nI ms)/\bX h' r g:=λfv n3 m4 r5 Rs L' h' o'=>by
  have q:∀(i:Nat)(R:aS),(ak r5 [fv] 46::ak m4 [v] 43::ak n3 [ptr r] 47::L')[i]? =some R->R.Q h':=λi R hi=>o'.get (Rs.length+i) (by rw[eR aa,show Rs.length+i-Rs.length=i by omega];exact hi);exact⟨q 1 _ rfl,q 0 _ rfl,q 2 _ rfl,hp.more o'.ext,hN.more o'.ext⟩
 refine WV (hN:=(by omega:ms.length<2^40)) (f:=λi=>(g.toI (ms.getD i 0:Nat)).aM) b (WU (v:=v) (r:=r) (m4:=m4) (r5:=r5) (n3:=n3) (T1:=43) (T2:=46) (T3:=47) (ali hR) aa) (λRs h' o'=>hQ _ _ _ _ Rs _ h' o') λtv ps h6 hps c=> ?_;have c:=c.bh [0,4] az;clear b e d o2;refine aK (NB ?_);unfold GA;refine c.box λs h7 u=>u.box λw h8 x=>x.box λy h9 k=> ?_;rw[j]at k;refine WV (hN:=(by omega:ms.length<2^40)) (f:=λi=>(g.cU (ms.getD i 0:Nat)).aM) k (WU (v:=v) (r:=r) (m4:=w) (r5:=y) (n3:=s) (T1:=43) (T2:=46) (T3:=47) (alj hR) aa) (λRs h' o'=>hQ _ _ _ _ Rs _ h' o') λfv qs h10 z A=> ?_;have a:Own h h10 [lD fv qs,lD tv ps,aC aJ 1 3 mv (nI ms)]:=A.bh [0,4,5] az;have p1:=(DC a (i:=0) rfl rfl);have p2:=(DC a (i:=1) rfl rfl);obtain⟨_,_,p1,_⟩:=p1;obtain⟨_,_,p2,_⟩:=p2;have p3:=a.vw 2 rfl;refine cE (cs':=Ar g.n mv tv fv) ?_ rfl rfl ?_
 .intro p hp;simp at hp;rcases hp with rfl|rfl|rfl|rfl
  .rfl
  .exact p3.one
  .exact p2.one
  .exact p1.one
 refine a.box λt h11 B=> ?_;refine hK t mv tv fv ps qs h11 (hps.trans (DD ms (λm=>(g.toI (m:Nat)).aM) 0)) (z.trans (DD ms (λm=>(g.cU (m:Nat)).aM) 0)) (o.frame (B.bh [0,3,2,1] az))
def alp{mv tv fv:Value}{ps qs:List Row}(o:Own h0 h (vB t g.n mv tv fv ms ps qs++L))(h1:ps.map (·.l)=ms.map (λ(m:Nat)=>(g.toI m).aM))(h2:qs.map (·.l)=ms.map (λ(m:Nat)=>(g.cU m).aM)):gG h t g ms:=⟨mv,tv,fv,o.get 0 rfl,o.vw 1 rfl,DC o (i:=2) rfl h1,DC o (i:=3) rfl h2⟩
def vC(o:Own h0 h L)(H:gG h t g ms)(hl:ms.length<=16)(hK:∀w h',Own h0 h' (aC aJ 1 3 w (nI ms)::L)->K w h'):ah prog 102 [ptr t] h K:=by obtain⟨mv,tv,fv,a,b,c,d⟩:=H.ex;refine aK (aer ?_);unfold OL;have c0:hcell h ⟨t,1,none⟩=some mv:=bz a rfl;simp only[dM,dW,aO,bD,aU,dh,bE,c0];exact xO o b (by rw[dr];omega) hK
end
section
variable{h0 h:af}{L:List aS}{K:KT}{a b:Int}
def kept(a:Int):Int:=min (max a 0) aN
def tJ{a:Int}(h0:0<=a)(h1:a<=aN):kept a=a:=by unfold kept;omega
def alq{l g:Nat}{T1 T2:TypeId}(h1:h[l]? =some (.cells #[I 0] T1 (0,0)))(h2:h[g]? =some (.cells #[I aN] T2 (0,0)))(hK:K (I (kept a)) h):
  aX prog (.func (.func 396) #[] #[ptr l,ptr g]) [I a].toArray h K:=by
 refine cg (l:=[I a,ptr l,ptr g]) rfl (VD ?_);unfold HF;have c0:hcell h ⟨l,0,none⟩=some (I 0):=bz h1 rfl;have c1:hcell h ⟨g,0,none⟩=some (I aN):=bz h2 rfl;simp only[dh,c0,c1,oI,rU];have e:(if aN<(if(0:Int)>a then 0 else a)then aN else(if(0:Int)>a then 0 else a))=kept a:=by unfold kept;split<;>split<;>omega
 rw[e];exact hK
def WX{P:KT}(hK:∀h',Ext h h'->P (I (kept a)) h'):Hz prog (I a) h P:=by unfold Hz;refine aK (Vc ?_);unfold HD;refine(Own.start h).box λl h1 o1=>o1.box λg h2 o2=> ?_;exact alq (o2.get 1 rfl) (o2.get 0 rfl) (hK _ o2.ext)
def xP(hK:∀h',Ext h h'->K (I (kept a)) h'):ah prog 374 [I a] h K:=aK (U5 (WX hK))
def DE(hK:∀h',Ext h h'->K (I (kept a)) h'):aX prog (.func (.func 374) #[] #[]) [I a].toArray h K:=cg (l:=[I a]) rfl (U5 (WX hK))
def As(h0:0<=a)(h1:a<=aN)(hK:∀h',Ext h h'->K (.bool (decide (a<aN))) h'):ah prog 373 [I a] h K:=by refine aK (aiU ?_);unfold U4;refine xP λh' x=> ?_;rw[tJ h0 h1,bC];exact hK _ x
def alr(h0:0<=a)(h1:a<=aN)(h2:0<=b)(h3:b<=aN)(hK:∀h',Ext h h'->K (I (min (a+b) aN)) h'):ah prog 388 [I a,I b] h K:=by
 have hf:aN=72057594037927936:=rfl;refine aK (ai9 ?_);unfold Vn;refine(Own.start h).build (enc:=aJ) (n:=1) [a,b] rfl (bW rfl) rfl λw h4 e=> ?_;refine aK (Vb ?_);unfold HC;refine(e.vw 0 rfl).len ?_;refine bV 2 (λi x h'=>x.2.1=I i/\x.1=I (if i=0 then 0 else if i=1 then a else min (a+b) aN)/\Own h h' [aC aJ 1 2 w [a,b]]) ⟨rfl,rfl,e⟩ ?_;rintro i ⟨sm,x,⟨⟩⟩ h' Z hi ⟨hx,f,o⟩ hZ;dsimp only at hx f hZ |-;subst hx f;unfold HB;simp only[bC,bA];refine⟨λhlt=> ?_,λhge=> ?_⟩
 .have hlt:i<2:=by simp at hlt;omega
  refine(o.vw 0 rfl).Im (by simpa using hlt) ?_;rcases(show i=0\/i=1 by omega)with rfl|rfl
  .refine DE λh5 c=> ?_;rw[show([a,b]:List Int)[0]=a from rfl,tJ h0 h1,bw,bK (by simp;omega) (by simp;omega)];refine DE λh6 d=> ?_;rw[show(if 0=0 then(0:Int)else if 0=1 then a else min (a+b) aN)+a=a by simp,tJ h0 h1,bw,wI 0 aa];exact hZ (I a,(I 1,())) h6 aa ⟨rfl,rfl,(o.more c).more d⟩
  .refine DE λh5 c=> ?_;rw[show([a,b]:List Int)[1]=b from rfl,tJ h2 h3,bw,bK (by simp;omega) (by simp;omega)];refine DE λh6 d=> ?_;rw[show(if 1=0 then(0:Int)else if 1=1 then a else min (a+b) aN)+b=a+b by simp,show kept (a+b)=min (a+b) aN by unfold kept;omega,bw,wI 1 aa];exact hZ (I (min (a+b) aN),(I 2,())) h6 aa ⟨rfl,rfl,(o.more c).more d⟩
 .have :i=2:=by
   have :([a,b]:List Int).length=2:=rfl;omega
  subst this;exact hK _ o.ext
end
section
variable{h0 h:af}{L:List aS}{K:KT}{g:G}{r:Nat}{a b:Int}
def DN{a b:Int}:(if b>a then b else a)=max a b:=by split<;>omega
def IM(h0:0<=a)(h1:a<=aN)(h2:0<=b)(h3:b<=aN)(hK:∀h',Ext h h'->K (I (iz a b)) h'):ah prog 369 [I a,I b] h K:=by
 have hf:aN=72057594037927936:=rfl;refine aK (aiQ ?_);unfold UY;refine xP λk x1=>xP λl x2=> ?_;rw[tJ h0 h1,tJ h2 h3];have e:=x1.trans x2 λ_ h _=>h;unfold iz at hK;refine As h2 h3 λm f=> ?_;have c:=e.trans f λ_ h _=>h;rw[bP];by_cases c1:aN<=b
 .rw[show decide (b<aN)=false from bR aa,dL,bF];rw[aW c1]at hK;exact hK _ c
 .rw[show decide (b<aN)=true from bT aa,cz,aO];rw[aQ c1]at hK;refine As h0 h1 λn i=> ?_;have d:=c.trans i λ_ h _=>h;rw[bP];by_cases c2:aN<=a
  .rw[show decide (a<aN)=false from bR aa,dL,bF];rw[aW c2]at hK;exact hK _ d
  .rw[show decide (a<aN)=true from bT aa,cz,aO];rw[aQ c2]at hK;rw[fc,bK aa aa];refine xP λo j=> ?_;have :=hK _ (d.trans j λ_ h _=>h);rw[show kept (a-b)=if 0<a-b then a-b else 0 by unfold kept;split<;>omega];exact this
def Xr(h0:0<=a)(h1:a<=aN)(h2:0<=b)(h3:b<=aN)(hK:∀h',Ext h h'->K (I (iz b a)) h'):ah prog 370 [I a,I b] h K:=by refine aK (aiR ?_);unfold UZ;exact IM h2 h3 h0 h1 hK
def IP{l g:Nat}{T1 T2:TypeId}(h1:h[l]? =some (.cells #[I 0] T1 (0,0)))(h2:h[g]? =some (.cells #[I 2305843009213693952] T2 (0,0)))(hK:K (I (j7 a)) h):
  aX prog (.func (.func 396) #[] #[ptr l,ptr g]) [I a].toArray h K:=by
 refine cg (l:=[I a,ptr l,ptr g]) rfl (VD ?_);unfold HF;have c0:hcell h ⟨l,0,none⟩=some (I 0):=bz h1 rfl;have c1:hcell h ⟨g,0,none⟩=some (I 2305843009213693952):=bz h2 rfl;simp only[dh,c0,c1,oI,rU];have e:(if 2305843009213693952<(if(0:Int)>a then 0 else a)then 2305843009213693952 else(if(0:Int)>a then 0 else a))=j7 a:=by unfold j7 tL;split<;>split<;>omega
 rw[e];exact hK
def alW(ha: -4611686018427387904<=a)(ha2:a<=4611686018427387904)(hK:∀h',Ext h h'->K (I (oe a b)) h'):ah prog 340 [I a,I b] h K:=by
 refine aK (aik ?_);unfold Ul;refine aK (Vc ?_);unfold HD;refine(Own.start h).box λl h1 o1=>o1.box λg h2 o2=> ?_;refine o2.build (enc:=aJ) (n:=1) [a,b] rfl (bW rfl) rfl λw h4 c=> ?_;refine aK (Vb ?_);unfold HC;refine(c.vw 0 rfl).len ?_;have hkr:∀x,0<=j7 x/\j7 x<=2305843009213693952:=λx=>by unfold j7 tL;omega
 refine bV 2 (λi x h'=>x.2.1=I i/\x.1=I (if i=0 then 0 else if i=1 then j7 (0+j7 a)else oe a b)/\Own h h' [aC aJ 1 2 w [a,b],ak g [I 2305843009213693952] 2,ak l [I 0] 2]) ⟨rfl,rfl,c⟩ ?_;rintro i ⟨sm,x,⟨⟩⟩ h' Z hi ⟨hx,d,o⟩ hZ;dsimp only at hx d hZ |-;subst hx d;unfold HB;simp only[bC,bA];refine⟨λhlt=> ?_,λhge=> ?_⟩
 .have hlt:i<2:=by simp at hlt;omega
  refine(o.vw 0 rfl).Im (by simpa using hlt) ?_;refine IP (o.get 2 rfl) (o.get 1 rfl) ?_;rcases(show i=0\/i=1 by omega)with rfl|rfl
  .have :=hkr a;rw[show([a,b]:List Int)[0]=a from rfl,bw,bK (by simp;omega) (by simp;omega)];refine IP (o.get 2 rfl) (o.get 1 rfl) ?_;rw[bw,wI 0 aa];exact hZ (_,(I 1,())) h' aa ⟨rfl,rfl,o⟩
  .have h1:=hkr b;have h2:=hkr (0+j7 a);rw[show([a,b]:List Int)[1]=b from rfl,show(if(1:Nat)=0 then(0:Int)else if(1:Nat)=1 then j7 (0+j7 a)else oe a b)=j7 (0+j7 a)from rfl,bw,bK aa aa];refine IP (o.get 2 rfl) (o.get 1 rfl) ?_;rw[bw,wI 1 aa];exact hZ (_,(I 2,())) h' aa ⟨rfl,rfl,o⟩
 .have :i=2:=by
   have :([a,b]:List Int).length=2:=rfl;omega
  subst this;exact hK _ o.ext
structure MV where
 node:Nat
 sd:Value
 sa:Value
 so:Value
 fd:Value
 fa:Value
 fo:Value
 pl:∀u∈ [sd,sa,so,fd,fa,fo],Mh.plainCell u=true
def akX(m:MV):List Value:=[I m.node,m.sd,m.sa,m.so,m.fd,m.fa,m.fo]
def AG(m:MV):(akX m).length=7:=rfl
def AH(m:MV):∀u∈akX m,Mh.plainCell u=true:=λu hu=>by
 rcases cV.1 hu with rfl|hu
 .rfl
 .exact m.pl u hu
def AJ(g:G)(ms:List MV):List aS:=ms.flatMap λm=>[xR m.sd (g.to m.node).aM,xR m.fd (g.from m.node).aM]
def tP(g:G)(h:af)(m:MV):Prop:=m.node<g.n/\Vw aJ 1 h m.sd (g.to m.node).aM/\Vw aJ 1 h m.fd (g.from m.node).aM
def tP.more{h':af}{m:MV}(H:tP g h m)(x:Ext h h'):tP g h' m:=⟨H.1,H.2.1.more x,H.2.2.more x⟩
def alX{z:Int}(H:bX h r g)(hK:K (.bool (decide (0<=z/\z<g.n))) h):ah prog 246 [ptr r,I z] h K:=by
 refine aK (agH ?_);unfold St;rw[Cb,kz,bF,dA,bA];refine⟨λh1=>dV H ?_,λh1=> ?_⟩
 .rw[bC,show decide (z<g.n)=decide (0<=z/\z<g.n) by rw[pN];exact⟨λh=>⟨h1,h⟩,λh=>h.2⟩];exact hK
 .rw[show decide (0<=z/\z<g.n)=false from bR λh=>h1 h.1]at hK;exact hK
def alY{ms:List MV}{vl:Value}{r v:Nat}(hR:g.Right)(t:∀m∈ms,tP g h m)(p:Vw akX 7 h vl ms)(hl:ms.length<2^40)(hr:r<g.n)(hv:v<g.n)(hK:∀h',Ext h h'->K (I (hG g (ms.map MV.node) r v)) h'):
  ah prog 339 [vl,I r,I v] h K:=by
 refine aK (aij ?_);unfold Uk;refine p.len ?_;refine bV ms.length (λi x h'=>x.1=I (hG g ((ms.take i).map MV.node) r v)/\x.2.1=I i/\Ext h h') ⟨rfl,rfl,(Own.start h).ext⟩ ?_;rintro i ⟨x,y,⟨⟩⟩ h1 Z hi ⟨hx,hy,x1⟩ hZ;dsimp only at hx hy hZ |-;subst hx hy;unfold Uj;rw[bC,bA];refine⟨λhlt=> ?_,λhge=> ?_⟩
 .have hlt:i<ms.length:=aa;refine(p.more x1).jW AG hlt ?_;obtain⟨hm,d,e⟩:=(t _ (cu hlt)).more x1;have tk:(ms.take (i+1)).map MV.node=(ms.take i).map MV.node++ [ms[i].node]:=by rw[cW hlt,fq];rfl
  rw[tk]at hZ;generalize ms[i]=m at hm d e hZ;have T1:=oQ hR hm;have T2:=gj hR hm;have l1:=T1.ls.len;have l2:=T2.ls.len;have q:r<(g.to m.node).aM.length:=by rw[l1];exact hr
  have s:v<(g.to m.node).aM.length:=by rw[l1];exact hv
  have f:r<(g.from m.node).aM.length:=by rw[l2];exact hr
  have j:v<(g.from m.node).aM.length:=by rw[l2];exact hv
  refine(Own.start h1).box λm8 h2 o2=>o2.st (l:=akX m) (cs':=akX m) 0 rfl rfl rfl rfl rfl (AH m) λh3 c=> ?_;have c:Own h1 h3 [ak m8 (akX m) 372]:=c;replace d:=d.more c.ext;replace e:=e.more c.ext;simp only[aU];refine c.load 0 rfl rfl (d.Im q (c.load 0 rfl rfl (d.Im s ?_)));refine c.load 0 rfl rfl (e.zL f λb1 f1 c1=>bJ rfl c1 (c.load 0 rfl rfl (e.zL j λb2 f2 c2=>bJ rfl c2 ?_)));rw[jc q,jc s];rw[jc f]at c1;rw[jc j]at c2;rw[jc f,jc j];refine IM (T1.ls.iP hr) (T1.ls.jX hr) (T1.ls.iP hv) (T1.ls.jX hv) λh4 k=> ?_;have o:=c.more k;refine⟨o.load 0 rfl rfl rfl,bJ rfl (nT k c1) rfl,o.load 0 rfl rfl rfl,bJ rfl (nT k c2) rfl,?_⟩;refine Xr (T2.ls.iP hr) (T2.ls.jX hr) (T2.ls.iP hv) (T2.ls.jX hv) λh5 u=> ?_;rw[oI,oI,DN,DN,bw,wI i aa];refine hZ (_,_,()) h5 hlt ⟨?_,rfl,x1.trans (o.more u).ext λ_ h _=>h⟩;rw[Xj];rfl
 .have :i=ms.length:=aa;subst this;rw[fF];exact hK _ x1
def alZ{l:List Int}{vl:Value}(o:Own h0 h L)(hR:g.Right)(H:bX h r g)(e:Vw aJ 1 h vl l)(hl:l.length<2^32)
  (hK:∀w ms h',ms.map MV.node=qQ g.n l->Own h0 h' (aC akX 7 372 w ms::(AJ g ms++L))->K w h'):ah prog 130 [ptr r,vl] h K:=by
 refine aK (aeV ?_);unfold Pu;refine e.len ?_;refine bV l.length (λi x h'=>x.2.1=I i/\∃ms,ms.map MV.node=qQ g.n (l.take i)/\Own h h' (aC akX 7 372 x.1 ms::AJ g ms)) ⟨rfl,[],rfl,(Own.start h).ef⟩ ?_;rintro i ⟨w,y,⟨⟩⟩ h1 Z hi ⟨hy,ms,d,o1⟩ hZ;dsimp only at hy o1 hZ |-;subst hy;unfold Pt;rw[bC,bA];refine⟨λhlt=> ?_,λhge=> ?_⟩
 .have hlt:i<l.length:=aa;have x1:=o1.ext;refine(e.more x1).Im hlt ?_;have tk:l.take (i+1)=l.take i++ [l[i]]:=cW hlt;have hml:ms.length<=i:=by
   rw[<-gK (f:=MV.node),d];unfold qQ;rw[gK];have :=rG (λ(z:Int)=>decide (0<=z/\z<g.n)) (l.take i);rw[dO]at this;omega
  generalize l[i]=z at tk;have j:∀w' ms' h',ms'.map MV.node=qQ g.n (l.take (i+1))->Own h h' (aC akX 7 372 w' ms'::AJ g ms')->CO prog (I i) (λa0 a1 hz=>Z (a0,(a1,())) hz) w' h':=λw' ms' h' hm o'=>by unfold CO;rw[bw,wI i aa];exact hZ (_,_,()) h' hlt ⟨rfl,ms',hm,o'⟩
  refine alX (H.more x1) ?_;rw[bA];refine⟨λhz=> ?_,λhz=>j w ms h1 ?_ o1⟩
  .obtain⟨m,rfl⟩:∃m:Nat,z=m:=iX hz.1;have hm:m<g.n:=aa;refine Ib hR (H.more x1) λsd sa so h2 k=> ?_;have o2:=o1.frame k;clear k;refine Ai hR (H.more o2.ext) λfd fa fo h3 p=> ?_;have c:=o2.frame p;clear o2 p;rw[show g.toI m=g.to m by simp[G.toI,hm],show g.cU m=g.from m by simp[G.cU,hm]]at c;have q0:=(c.vw 0 rfl).plain;have q1:=(c.vw 1 rfl).plain;have q2:=(c.vw 2 rfl).plain;have v:=(c.vw 3 rfl).plain;have A:=(c.vw 4 rfl).plain;have B:=(c.vw 5 rfl).plain;have hp:∀u∈ [sd,sa,so,fd,fa,fo],Mh.plainCell u=true:=by
    intro u hu;simp at hu;rcases hu with rfl|rfl|rfl|rfl|rfl|rfl<;>assumption
   refine⟨bW rfl,?_⟩;refine c.fH 6 (⟨m,sd,sa,so,fd,fa,fo,hp⟩:MV) rfl rfl (bW rfl) AG AH rfl az aa λw' h4 s=> ?_;refine j w' (ms++ [⟨m,sd,sa,so,fd,fa,fo,hp⟩]) h4 ?_ ?_
   .rw[fq,d,tk,Wj,aW hz];rfl
   .have t:Own h h4 ([xR sd (g.to m).aM,xR fd (g.from m).aM]++(aC akX 7 372 w' (ms++ [⟨m,sd,sa,so,fd,fa,fo,hp⟩])::AJ g ms)):=s.front 6 [3,0] az az;have q:=Own.comm t;unfold AJ at q |-;rw[gV];exact q
  .rw[d,tk,Wj,aQ hz,eO]
 .have :i=l.length:=aa;subst this;rw[fF]at d;exact hK w ms h1 d (o.frame o1)
end
def I3{P:Program}{f:Nat}{l:List Value}{h:af}{K:KT}(H:ah P f l h K):aF P f l.toArray h K:=by have H:aF P f (#[]++l.toArray++ #[]) h K:=H;simpa using H
section
variable{h0 h:af}{L:List aS}{K:KT}{g:G}{t r:Nat}{ms:List Nat}
def yb(H:gG h t g ms)(hK:K (I g.n) h):ah prog 101 [ptr t] h K:=by obtain⟨mv,tv,fv,a,b,c,d⟩:=H.ex;refine aK (aeq ?_);unfold OK;have c0:hcell h ⟨t,0,none⟩=some (I g.n):=bz a rfl;simp only[dM,dW,aO,bD,aU,dh,bE,c0];exact hK
def XJ{lv dv:Value}{D:Nat->List Int}{i v:Nat}(H:gG h t g ms)(hT:oa h dv (ms.map D))(hf:∀K:KT,K dv h->aX prog lv [].toArray h K)(hi:i<ms.length)(hv:v<g.n)(hl:(D ms[i]).length=g.n)
  (hK:K (I (aL (D ms[i]) v)) h):ah prog 285 [ptr t,lv,I i,I v] h K:=by
 obtain⟨mv,tv,fv,a,b,c,d⟩:=H.ex;refine aK (ahu ?_);unfold Tf;have c0:hcell h ⟨t,0,none⟩=some (I g.n):=bz a rfl;have c1:hcell h ⟨t,1,none⟩=some mv:=bz a rfl;simp only[dM,dW,aO,bD,aU,dh,bE,c0,c1];rw[bC,bR aa,aO];refine b.len ?_;rw[dr,dA,bR aa,aO,bC,bR aa,aO,dA,bR aa,aO];obtain⟨ps,e,hp,hr⟩:=hT;have hil:i<ps.length:=by have :=eG List.length e;simp at this;omega
 refine hf _ (hp.dU (e:=λp:Row=>p.v) (λ_=>rfl) hil ?_);have e2:ps[i].l=D ms[i]:=by
  have h1:(ps.map (·.l))[i]'(by simpa using hil)=(ms.map D)[i]'(by simpa using hi):=by simp only[e]
  simpa using h1
 have h3:=hr _ (cu hil);rw[e2]at h3;have h4:v<(D ms[i]).length:=aa;refine h3.Im h4 ?_;rw[jc];exact hK
def I4{i v:Nat}(H:gG h t g ms)(hR:g.Right)(hm:∀m∈ms,m<g.n)(hi:i<ms.length)(hv:v<g.n)(hK:K (I (aL (g.to ms[i]).aM v)) h):aX prog (.func (.func 170) #[ptr t] #[]) [I i,I v].toArray h K:=by
 refine cg (l:=[ptr t,I i,I v]) rfl (afC ?_);unfold Qy;obtain⟨mv,tv,fv,a,b,c,d⟩:=H.ex;have f:=hm _ (cu hi);have e:(g.toI (ms[i]:Nat)).aM=(g.to ms[i]).aM:=by unfold G.toI;rw[aW ⟨aa,aa⟩];rfl
 refine XJ (D:=λ(m:Nat)=>(g.toI m).aM) H c (λK hk=> ?_) hi hv ?_ ?_
 .refine cg (l:=[ptr t]) rfl (ahv ?_);unfold Tg;have c2:hcell h ⟨t,2,none⟩=some tv:=bz a rfl;simp only[bD,aU,dh,bE,c2];exact hk
 .rw[e];exact(oQ hR f).ls.len
 .rw[e];exact hK
def I5{i v:Nat}(H:gG h t g ms)(hR:g.Right)(hm:∀m∈ms,m<g.n)(hi:i<ms.length)(hv:v<g.n)(hK:K (I (aL (g.from ms[i]).aM v)) h):aX prog (.func (.func 171) #[ptr t] #[]) [I i,I v].toArray h K:=by
 refine cg (l:=[ptr t,I i,I v]) rfl (afD ?_);unfold Qz;obtain⟨mv,tv,fv,a,b,c,d⟩:=H.ex;have f:=hm _ (cu hi);have e:(g.cU (ms[i]:Nat)).aM=(g.from ms[i]).aM:=by unfold G.cU;rw[aW ⟨aa,aa⟩];rfl
 refine XJ (D:=λ(m:Nat)=>(g.cU m).aM) H d (λK hk=> ?_) hi hv ?_ ?_
 .refine cg (l:=[ptr t]) rfl (ahw ?_);unfold Ti;have c2:hcell h ⟨t,3,none⟩=some fv:=bz a rfl;simp only[bD,aU,dh,bE,c2];exact hk
 .rw[e];exact(gj hR f).ls.len
 .rw[e];exact hK
def AM{v:Nat}(H:gG h t g ms)(hv:v<g.n)(hK:K (.bool true) h):ah prog 320 [ptr t,I v] h K:=by refine aK (ah3 ?_);unfold TU;rw[dA,bT aa,bF];refine yb H ?_;rw[bC,bT aa];exact hK
def yc(ms:List Nat)(i:Int):Option Nat:=if 0<=i then ms[i.toNat]? else none
def bh(ms:List Nat)(act:List Int):List Nat:=act.filterMap (yc ms)
def I6{act:List Int}(hm:∀m∈ms,m<g.n):∀m∈bh ms act,m<g.n:=λm h=>by
 obtain⟨i,_,hi⟩:=EO.1 h;unfold yc at hi;split at hi
 .exact hm m (mE hi)
 .cases hi
def I7(g:G)(ms:List Nat)(i:Int)(v w:Nat):Int:=match yc ms i with
 |some m=>max (iz (aL (g.to m).aM v) (aL (g.to m).aM w)) (iz (aL (g.from m).aM w) (aL (g.from m).aM v))
 |none=>0
def I8{i:Int}{v w:Nat}(H:gG h t g ms)(hR:g.Right)(hm:∀m∈ms,m<g.n)(hl:ms.length<=16)(hv:v<g.n)(hw:w<g.n)(hK:∀h',Ext h h'->K (I (I7 g ms i v w)) h'):ah prog 319 [ptr t,I i,I v,I w] h K:=by
 refine aK (ah2 ?_);unfold TT Aa;refine AM H hv ?_;rw[bP,cz,aO];refine AM H hw ?_;rw[bP,cz,aO,bC,bA];unfold I7 yc at hK;refine⟨λhi=> ?_,λhi=> ?_⟩
 .rw[aQ aa]at hK;exact hK h (.refl _ _)
 .obtain⟨k,rfl⟩:=iX (by omega:0<=i);rw[aW aa,fL]at hK;refine vC (Own.start h) H hl λw' h1 o1=>(o1.vw 0 rfl).len ?_;rw[dr,dA,bA];refine⟨λhge=> ?_,λhlt=> ?_⟩
  .rw[kU aa]at hK;exact hK h1 o1.ext
  .have hk:k<ms.length:=aa;rw[dD hk]at hK;dsimp only at hK;have hmk:=hm _ (cu hk);have T1:=(oQ hR hmk).ls;have T2:=(gj hR hmk).ls;have H1:=H.more o1.ext;refine aK (UX ?_);unfold Hy;refine I4 H1 hR hm hk hv (I4 H1 hR hm hk hw ?_);refine cg (l:=[I _,I _]) rfl (I3 (IM (T1.iP hv) (T1.jX hv) (T1.iP hw) (T1.jX hw) λh2 x2=> ?_));have H2:=H1.more x2;refine aK (UX ?_);unfold Hy;refine I5 H2 hR hm hk hv (I5 H2 hR hm hk hw ?_);refine cg (l:=[I _,I _]) rfl (I3 (Xr (T2.iP hv) (T2.jX hv) (T2.iP hw) (T2.jX hw) λh3 a=> ?_));dsimp only;rw[oI,DN];exact hK h3 ((o1.uS x2).trans a λ_ h _=>h)
def I9{va:Value}{act:List Int}{v w:Nat}(H:gG h t g ms)(hR:g.Right)(hm:∀m∈ms,m<g.n)(hl:ms.length<=16)(hv:v<g.n)(hw:w<g.n)(hA:Vw aJ 1 h va act)(hal:act.length<2^40)(hK:∀h',Ext h h'->K (I (hG g (bh ms act) v w)) h'):ah prog 323 [ptr t,va,I v,I w] h K:=by
 refine aK (ah5 ?_);unfold TY;refine hA.len ?_;refine bV act.length (λi x h'=>x.1=I (hG g (bh ms (act.take i)) v w)/\x.2.1=I i/\Ext h h') ⟨rfl,rfl,.refl _ _⟩ ?_;rintro i ⟨x,y,⟨⟩⟩ h1 Z hi ⟨hx,hy,x1⟩ hZ;dsimp only at hx hy hZ |-;subst hx hy;unfold TX;rw[bC,bA];refine⟨λhlt=> ?_,λhge=> ?_⟩
 .have hlt:i<act.length:=aa;refine(hA.more x1).Im hlt (I8 (H.more x1) hR hm hl hv hw λh2 x2=> ?_);rw[oI,DN,bw,wI i aa];refine hZ (_,(I (i+1:Nat),())) h2 hlt ⟨?_,rfl,x1.trans x2 λ_ h _=>h⟩;have hb:=@vD g v w (bh ms (act.take i));dsimp only;rw[cW hlt];unfold bh I7 at *;rw[List.filterMap_append];generalize List.filterMap (yc ms) (act.take i)=q at hb |-;cases hs:yc ms act[i]with
  |none=>rw[List.filterMap_cons_none hs,List.filterMap_nil,eO];dsimp only;rw[show max (hG g q v w) 0=hG g q v w by omega]
  |some m=>rw[List.filterMap_cons_some hs,List.filterMap_nil,Xj];dsimp only;unfold ji;rw[show ∀a b c:Int,max a (max b c)=max (max a b) c by intro a b c;omega]
 .have :act.take i=act:=fM aa;rw[this];exact hK h1 x1
end
section
variable{h0 h:af}{L:List aS}{K:KT}{g:G}{t r:Nat}{ms:List Nat}{vd cv:Value}
def amc{q:Nat}{xs:List Int}(o:Own h0 h L)(hq:L[q]? =some (aC aJ 1 3 vd xs))(hl:xs.length<2^40)
  (hC:∀(ys:List Int)(h':af)(a b:Int)(K':KT),Own h0 h' (L.set q (aC aJ 1 3 vd ys))->(∀(z:Int) h'',Ext h' h''->K' (I z) h'')->aX prog cv [I a,I b].toArray h' K')
  (hK:∀ys h',ys.length=xs.length->Own h0 h' (L.set q (aC aJ 1 3 vd ys))->K (.tuple #[]) h'):ah prog 397 [vd,I (0:Nat),I xs.length,cv] h K:=by
 refine aK (VE ?_);unfold HJ;rw[bw,wI 0 az];refine bV (xs.length-1) (λi x h'=>x.1=I (i+1:Nat)/\∃ys,ys.length=xs.length/\Own h0 h' (L.set q (aC aJ 1 3 vd ys))) ⟨rfl,xs,rfl,by rw[tI hq];exact o⟩ ?_;clear o;rintro i ⟨x,⟨⟩⟩ h1 Z hi ⟨hx,ys,hy,o⟩ hZ;dsimp only at hx hZ |-;subst hx;unfold HI;rw[bC,bA];refine⟨λhlt=> ?_,λhge=>hK ys h1 hy o⟩;have hlt:i+1<xs.length:=aa;have c:∀{ys:List Int},(L.set q (aC aJ 1 3 vd ys))[q]? =some (aC aJ 1 3 vd ys):=ng hq;refine tj (λj x h'=>x.1=I j/\j<=i+1/\∃ys,ys.length=xs.length/\Own h0 h' (L.set q (aC aJ 1 3 vd ys))) (k0:=i+1) ⟨rfl,cq _,ys,hy,o⟩ ?_;clear o hy ys;rintro j ⟨x,⟨⟩⟩ h2 m ⟨hx,hj,ys,hy,o⟩ e;dsimp only at hx e |-;subst hx;unfold HH;refine gW (λy h'=>∃b,y.1=.bool b/\(b=true->0<j)/\Own h0 h' (L.set q (aC aJ 1 3 vd ys))) (λJ hJ=> ?_) ?_
 .rw[akS,bA];refine⟨λhpos=> ?_,λhz=>hJ _ _ ⟨false,rfl,(λh=>by cases h),o⟩⟩;refine(o.vw q c).Im aa ?_;rw[fc,bK aa aa,show(j:Int)-1=((j-1:Nat):Int) by omega];refine(o.vw q c).Im aa (hC _ _ _ _ _ o λz h3 l=> ?_);rw[bC];exact hJ _ _ ⟨_,rfl,λ_=>aa,o.more l⟩
 .rintro⟨y,⟨⟩⟩ h3 ⟨b,hb,hp,d⟩;dsimp only at hb |-;subst hb;unfold HG;cases b with
  |false=>rw[aO,bw,wI (i+1) aa];exact hZ (_,()) h3 aa ⟨rfl,ys,hy,d⟩
  |true=>have hp:=hp rfl;rw[bF,fc,bK aa aa,show(j:Int)-1=((j-1:Nat):Int) by omega];rw[fc,bK aa aa,show(j:Int)-1=((j-1:Nat):Int) by omega];refine(d.vw q c).Im aa ((d.vw q c).Im aa ?_);refine d.jD q c aa λh4 f=> ?_;rw[jO]at f;refine f.jD q c (by rw[kV];omega) λh5 k=> ?_;rw[jO]at k;rw[fc,bK aa aa,show(j:Int)-1=((j-1:Nat):Int) by omega];exact e (_,()) h5 (j-1) aa ⟨rfl,aa,_,by rw[kV,kV];exact hy,k⟩
def amd{q:Nat}{xs:List Int}(o:Own h0 h L)(hq:L[q]? =some (aC aJ 1 3 vd xs))(hl:xs.length<20)
  (hC:∀(ys:List Int)(h':af)(a b:Int)(K':KT),Own h0 h' (L.set q (aC aJ 1 3 vd ys))->(∀(z:Int) h'',Ext h' h''->K' (I z) h'')->aX prog cv [I a,I b].toArray h' K')
  (hK:∀ys h',ys.length=xs.length->Own h0 h' (L.set q (aC aJ 1 3 vd ys))->K (.tuple #[]) h'):ah prog 367 [vd,cv] h K:=by
 refine aK (aiP ?_);unfold UW;refine(o.vw q hq).len (aK (aji ?_));unfold VA;refine bV 0 (λ_ x h'=>x.1=I (0:Nat)/\x.2.1=I 20/\h'=h) ⟨rfl,rfl,rfl⟩ ?_;rintro i ⟨x,y,⟨⟩⟩ h' Z hi ⟨hx,hy,rfl⟩ hZ;dsimp only at hx hy |-;subst hx hy;unfold Vz;rw[lS,bR aa,aO];refine amc o hq aa hC λys h2 hy o2=> ?_;refine bV 0 (λ_ x h'=>x.1=I 20/\h'=h2) ⟨rfl,rfl⟩ ?_;rintro i ⟨x,⟨⟩⟩ h' Z hi ⟨hx,rfl⟩ hZ;dsimp only at hx |-;subst hx;unfold Vy;rw[bC,bR aa,aO];exact hK ys _ hy o2
def ame(va:Value)(act:List Int)(cl:Value)(zs:List Int):Prop:=(∀h,Vw aJ 1 h cl zs->Vw aJ 1 h va act)/\act.length<=16
def Ja{v w:Nat}{most:Int}(o0:Own h0 h L)(H:gG h t g ms)(hR:g.Right)(hm:∀m∈ms,m<g.n)(hl:ms.length<=16)(hv:v<g.n)(hw:w<g.n)
  (hK:∀va act cl zs h',ame va act cl zs->Own h0 h' (aC aJ 1 3 cl zs::L)->K va h'):ah prog 210 [ptr t,I v,I w,I most] h K:=by
 refine aK (agc ?_);unfold RE;refine(Own.start h).box λt4 h1 o=>o.box λs5 h2 o=>o.box λc h3 o=> ?_;have o:Own h h3 [ak c [I w] 3,ak s5 [I v] 3,ak t4 [ptr t] 48]:=o;refine o.load 2 rfl rfl (vC o (H.more o.ext) hl λe h4 o=>(o.vw 0 rfl).len ?_);rw[dr];have o:Own h h4 (aC aJ 1 3 (.slice none 0 0) []:: [aC aJ 1 3 e (nI ms),ak c [I w] 3,ak s5 [I v] 3,ak t4 [ptr t] 48]):=Own.ef o;refine bV ms.length (λi x h'=>x.2.1=I i/\∃ys:List Int,ys.length=i/\Own h h' (aC aJ 1 3 x.1 ys:: [aC aJ 1 3 e (nI ms),ak c [I w] 3,ak s5 [I v] 3,ak t4 [ptr t] 48])) ⟨rfl,[],rfl,o⟩ ?_;clear o;rintro i ⟨av,y,⟨⟩⟩ h5 Z hi ⟨hy,ys,B,o⟩ hZ;dsimp only at hy hZ o |-;subst hy;unfold RD;rw[bC,bA];refine⟨λhlt=> ?_,λhge=> ?_⟩
 .refine o.fH 0 (i:Int) rfl rfl (bW rfl) (λ_=>rfl) jb rfl az aa λu h6 p=> ?_;rw[bw,wI i aa];exact hZ (u,(_,())) h6 aa ⟨rfl,ys++ [(i:Int)],by rw[cG];simp;omega,p⟩
 .rw[oI];refine aK (ah0 ?_);unfold TR;refine xO o (o.vw 0 rfl) aa λcl h6 p=> ?_;refine amd p (q:=0) rfl aa (λzs h' a b K' o' hk=> ?_) λzs h7 hzl d=> ?_
  .refine cg (l:=[I a,I b,ptr t4,ptr s5,ptr c]) rfl (ah1 ?_);unfold TS;have o':Own h h' (aC aJ 1 3 cl zs::aC aJ 1 3 av ys:: [aC aJ 1 3 e (nI ms),ak c [I w] 3,ak s5 [I v] 3,ak t4 [ptr t] 48]):=o';refine o'.load 5 rfl rfl (o'.load 4 rfl rfl (o'.load 3 rfl rfl (o'.load 5 rfl rfl (o'.load 4 rfl rfl (o'.load 3 rfl rfl ?_)))));refine I8 (H.more o'.ext) hR hm hl hv hw λh8 s=> ?_;have f:=o'.more s;refine⟨f.load 5 rfl rfl rfl,f.load 4 rfl rfl rfl,f.load 3 rfl rfl rfl,?_⟩;refine I8 (H.more f.ext) hR hm hl hv hw λh9 z=> ?_;refine WR ?_;exact hk _ _ (s.trans z λ_ h _=>h)
  .have d:Own h h7 (aC aJ 1 3 cl zs::aC aJ 1 3 av ys:: [aC aJ 1 3 e (nI ms),ak c [I w] 3,ak s5 [I v] 3,ak t4 [ptr t] 48]):=d;refine(d.vw 0 rfl).len ?_;obtain⟨k,hk⟩:∃k:Nat,(if(zs.length:Int)<(if(1:Int)>most then 1 else most)then(zs.length:Int)else(if(1:Int)>most then 1 else most))=(k:Int)/\k<=zs.length:=by
    refine⟨((if(zs.length:Int)<(if(1:Int)>most then 1 else most)then(zs.length:Int)else(if(1:Int)>most then 1 else most))).toNat,?_,?_⟩<;>split<;>split<;>omega
   rw[rU,hk.1];refine(d.vw 0 rfl).xN (a:=0) (j:=k) (λ_=>rfl) rfl rfl (fE _) hk.2 λva A=> ?_;refine hK va _ cl zs h7 ⟨A,?_⟩ (o0.frame (d.bh [0] az));rw[dO,sK];omega
def Jb(fv:Value)(Q:af->Prop)(n:Nat)(f:Nat->Int):Prop:=∀(h:af)(K:KT)(v:Nat),v<n->Q h->(∀h',Ext h h'->K (I (f v)) h')->aX prog fv [I v].toArray h K
def XK{fv:Value}{Q:af->Prop}{f:Nat->Int}{a2 a3:Nat}{T1 T2:TypeId}(hF:Jb fv Q g.n f)(hg:g.n<2^40):
  iG prog (.func (.func 371) #[] #[ptr a2,ptr a3]) (λh=>h[a2]? =some (.cells #[ptr t] T1 (0,0))/\h[a3]? =some (.cells #[fv] T2 (0,0))/\gG h t g ms/\Q h) (σ:=Nat) 0 (λi x i'=>i<g.n/\x=[I (f i)]/\i'=i+1) (λi=>i=g.n):=by
 rintro yv h0 h Rs K J E ⟨l,rfl⟩ o b hQ hY hK;refine jE (l:=[dS l,ptr a2,ptr a3]) rfl (aiS ?_);unfold U1;obtain⟨hm,_,hT,_⟩:=hQ _ _ _ b o;refine bJ rfl (bz hm rfl) (yb hT ?_);refine bV g.n (λi x h'=>x.1=I i/\∃a,J i a/\Own h0 h' a) ⟨rfl,Rs,b,o⟩ ?_;rintro i ⟨x,⟨⟩⟩ h Z hi ⟨hx,a,hj,o⟩ hZ;dsimp only at hx hZ |-;subst hx;unfold U0;rw[bC,bA];refine⟨λhlt=> ?_,λhge=> ?_⟩
 .have hlt:i<g.n:=aa;obtain⟨_,hh,_,hq⟩:=hQ _ _ _ hj o;refine bJ rfl (bz hh rfl) (hF _ _ i hlt hq λh1 x1=> ?_);refine hY i _ (i+1) a [] h1 _ ⟨hlt,rfl,rfl⟩ hj (o.more x1).oK (λc h'' hj' o'=> ?_) λc h'' he o'=> ?_
  .rw[bP,cz,aO,bw,wI i aa];exact hZ (I (i+1:Nat),()) h'' hlt ⟨rfl,c,hj',o'.gi⟩
  .rw[bP,dL,bF];exact hK _ _ (.inr he) o'.gi
 .have :i=g.n:=aa;subst this;exact hK _ _ (.inl ⟨_,rfl,hj⟩) o
def XL{f:Nat->Int}{n:Nat}:(List.range (n+1)).map f=(List.range n).map f++ [f n]:=by rw[ku,fq];rfl
def Jc{va:Value}{act:List Int}{w:Nat}(o:Own h0 h L)(H:gG h t g ms)(hR:g.Right)(hm:∀m∈ms,m<g.n)(hl:ms.length<=16)(hw:w<g.n)(hA:Vw aJ 1 h va act)(hal:act.length<=16)
  (hK:∀pv h',Own h0 h' (aC aJ 1 2 pv (qh g (bh ms act) w)::L)->K pv h'):ah prog 211 [ptr t,va,I w] h K:=by
 have y:=hR.most;refine aK (agd ?_);unfold RG;refine(Own.start h).box λt3 h1 o1=>o1.box λa4 h2 o2=>o2.box λa h3 k=>k.box λe h4 b=> ?_;rw[show va.cells.toList=[va] by rw[hA.one]]at b;have b:Own h h4 [ak e [aT] 29,ak a [I w] 3,ak a4 [va] 43,ak t3 [ptr t] 48]:=b;refine b.load 3 rfl rfl (b.load 1 rfl rfl (AM (H.more b.ext) hw ?_));rw[bP,cz,aO];refine b.load 3 rfl rfl (aK (TV ?_));unfold Hj;refine b.box λb2 h5 p=>p.box λb3 h6 f=> ?_;have f:Own h h6 ([ak b3 [.func (.func 322) #[] #[ptr t3,ptr a4,ptr a]] 369,ak b2 [ptr t] 48,ak e [aT] 29]++ [ak a [I w] 3,ak a4 [va] 43,ak t3 [ptr t] 48]):=f;have q:=Own.ef (enc:=aJ) (n:=1) (T:=2) f;have hF:Jb (.func (.func 322) #[] #[ptr t3,ptr a4,ptr a]) (λh'=>Ext h h'/\h'[t3]? =some (.cells #[ptr t] 48 (0,0))/\h'[a4]? =some (.cells #[va] 43 (0,0))/\h'[a]? =some (.cells #[I w] 3 (0,0))) g.n λv=>hG g (bh ms act) v w:=λh' K' v hv⟨x,q1,q2,u⟩ hk=>by refine cg (l:=[I v,ptr t3,ptr a4,ptr a]) rfl (ah4 ?_);unfold TW;refine bJ rfl (bz q1 rfl) (bJ rfl (bz q2 rfl) (bJ rfl (bz u rfl) ?_));exact I9 (H.more x) hR hm hl hv hw (hA.more x) aa λh'' x''=>hk h'' x''
 refine q.range (XK (t:=t) (ms:=ms) (T1:=48) (T2:=369) hF aa) (λs x s' hn=>by obtain⟨_,rfl,_⟩:=hn;rfl)
  (λs Rs=>s<=g.n/\∃pv,Rs=aC aJ 1 2 pv ((List.range s).map λv=>hG g (bh ms act) v w):: [ak b3 [.func (.func 322) #[] #[ptr t3,ptr a4,ptr a]] 369,ak b2 [ptr t] 48,ak e [pv] 29,ak a [I w] 3,ak a4 [va] 43,ak t3 [ptr t] 48])
  (λ_=>False) (λ_ _=>False) ⟨fE _,_,rfl⟩ ?_ ?_ ?_ (λ_ _ h=>h.elim) (λ_ _ _ h=>h.elim)
 .rintro s Rs h' ⟨_,pv,rfl⟩ o';exact⟨o'.get 2 rfl,o'.get 1 rfl,H.more o'.ext,o'.ext,o'.get 6 rfl,o'.get 5 rfl,o'.get 4 rfl⟩
 .rintro M s x s' Rs Pr h' R ⟨hs,rfl,rfl⟩ ⟨_,pv,rfl⟩ o' hN _ _;dsimp only[gh];unfold RF;refine o'.begin 0 rfl λh8 c=> ?_;refine c.load 5 rfl rfl ?_;refine c.fH 2 (hG g (bh ms act) s w) rfl rfl (bW rfl) (λ_=>rfl) jb rfl az (by rw[gK,gd];omega) λi h9 j=> ?_;have hv:=j.vw 2 rfl;refine j.bu 5 (cs':=[i]) rfl rfl rfl hv.one hv.plain λh10 d=> ?_;refine hN _ h10 ⟨hs,i,rfl⟩ ?_;rw[XL];exact d
 .rintro s h' Rs rfl ⟨_,pv,rfl⟩ o';have hv:=o'.vw 1 rfl;refine o'.load 4 rfl rfl (o'.bu 4 (cs':=[pv]) rfl rfl rfl hv.one hv.plain λh8 c=> ?_);refine c.jV 0 rfl λh10 d=> ?_;refine d.load 4 rfl rfl ?_;exact hK pv h10 (o.frame (d.bh [1] az))
def amf{a b:Int}(a0:0<=a)(a1:a<=aN)(b0:0<=b)(b1:b<=aN)(hK:∀h',Ext h h'->K (I (vE a b)) h'):ah prog 331 [I a,I b] h K:=by
 have hf:aN=72057594037927936:=rfl;refine aK (aid ?_);unfold Ua Hq;unfold vE at hK;refine As a0 a1 λh1 x1=> ?_;rw[bP];by_cases c1:aN<=a
 .rw[bR aa,dL,bF];rw[aW (.inl c1)]at hK;exact hK _ x1
 .rw[bT aa,cz,aO];refine As b0 b1 λh2 x2=> ?_;have c:=x1.trans x2 λ_ h _=>h;rw[bP];by_cases c2:aN<=b
  .rw[bR aa,dL,bF];rw[aW (.inr c2)]at hK;exact hK _ c
  .rw[bT aa,cz,aO];rw[aQ aa]at hK;refine xP λh3 d=>xP λh4 e=> ?_;rw[tJ a0 a1,tJ b0 b1,fc,bK aa aa];exact hK _ ((c.trans d λ_ h _=>h).trans e λ_ h _=>h)
def amg{fv:Value}{Q:af->Prop}{f:Nat->Int}{n:Nat}{stop:Nat->Prop}(o:Own h0 h L)(hI:iG prog fv Q (σ:=Nat) 0 (λi x i'=>i<n/\x=[I (f i)]/\i'=i+1) (λi=>i=n))(hn:n<2^40)(hQ:∀(Rs:List aS) h',Own h0 h' (Rs++L)->Q h')
  (hK:∀w h',Own h0 h' (aC aJ 1 2 w ((List.range n).map f)::L)->K w h'):ah prog 329 [fv] h K:=by
 refine aK (aib ?_);unfold T8;refine aK (aiT ?_);unfold U3;refine o.box λs2 h1 o1=> ?_;have o2:Own h0 h1 (aC aJ 1 2 (.slice none 0 0) []::ak s2 [.slice none 0 0] 29::L):=Own.ef (enc:=aJ) (n:=1) (T:=2) o1;refine o2.range hI (λs x s' hn=>by obtain⟨_,rfl,_⟩:=hn;rfl)
  (λs Rs=>∃w,Rs=aC aJ 1 2 w ((List.range s).map f)::ak s2 [w] 29::L) (λ_=>False) (λ_ _=>False) ⟨_,rfl⟩ ?_ ?_ ?_ (λ_ _ h=>h.elim) (λ_ _ _ h=>h.elim)
 .rintro s Rs h' ⟨w,rfl⟩ o';exact hQ [_,_] h' o'
 .rintro M s x s' Rs Pr h' R ⟨hs,rfl,rfl⟩ ⟨w,rfl⟩ o' hN _ _;dsimp only[gh];unfold U2;refine o'.begin 0 rfl λh4 a=> ?_;have a:Own h0 h4 (cD _ _::cw _::aC aJ 1 2 w ((List.range s).map f)::ak s2 [w] 29::(L++Pr)):=a;refine a.load 3 rfl rfl ?_;refine a.fH 2 (f s) rfl rfl (bW rfl) (λ_=>rfl) jb rfl az (by rw[gK,gd];omega) λw' h5 b=> ?_;have hw':=b.vw 2 rfl;refine b.bu 3 (cs':=[w']) rfl rfl rfl hw'.one hw'.plain λh6 c=> ?_;refine hN _ h6 ⟨w',rfl⟩ ?_;rw[XL];exact c
 .rintro s h' Rs rfl ⟨w,rfl⟩ o';refine o'.load 2 rfl rfl (o'.jV 0 rfl λh10 d=>hK w h10 ?_);exact d.tail.front 2 [0] az az
def XM{act:List Int}{v w:Nat}(hR:g.Right)(hm:∀m∈ms,m<g.n)(hv:v<g.n)(hw:w<g.n):0<=hG g (bh ms act) v w/\hG g (bh ms act) v w<=aN:=⟨vD,by have :=xX hR hv hw (I6 (act:=act) hm);have :=(gj hR hv).ls.jX hw;omega⟩
def XN{va:Value}{act:List Int}{s w:Nat}(o:Own h0 h L)(H:gG h t g ms)(hR:g.Right)(hm:∀m∈ms,m<g.n)(hl:ms.length<=16)(hs:s<g.n)(hw:w<g.n)(hA:Vw aJ 1 h va act)(hal:act.length<=16)
  (hK:∀pv h',Own h0 h' (aC aJ 1 2 pv (vq g (bh ms act) s w)::L)->K pv h'):ah prog 215 [ptr t,va,I s,I w] h K:=by
 have z:=hR.most;refine aK (agh ?_);unfold RM;refine(Own.start h).box λt4 h1 o1=>o1.box λa5 h2 o2=>o2.box λb h3 f=>f.box λw7 h4 a=> ?_;rw[show va.cells.toList=[va] by rw[hA.one]]at a;have a:Own h h4 [ak w7 [I w] 3,ak b [I s] 3,ak a5 [va] 43,ak t4 [ptr t] 48]:=a;refine a.load 3 rfl rfl (a.load 1 rfl rfl (AM (H.more a.ext) hs ?_));rw[bP,cz,aO];refine a.load 3 rfl rfl (a.load 0 rfl rfl (AM (H.more a.ext) hw ?_));rw[bP,cz,aO];refine a.load 3 rfl rfl (aK (TV ?_));unfold Hj;refine a.box λb2 h5 j=>j.box λb3 h6 c=> ?_;have c:Own h h6 [ak b3 [.func (.func 330) #[] #[ptr t4,ptr a5,ptr w7,ptr b]] 369,ak b2 [ptr t] 48,ak w7 [I w] 3,ak b [I s] 3,ak a5 [va] 43,ak t4 [ptr t] 48]:=c;have hF:Jb (.func (.func 330) #[] #[ptr t4,ptr a5,ptr w7,ptr b]) (λh'=>Ext h h'/\h'[t4]? =some (.cells #[ptr t] 48 (0,0))/\h'[a5]? =some (.cells #[va] 43 (0,0))/\h'[w7]? =some (.cells #[I w] 3 (0,0))/\h'[b]? =some (.cells #[I s] 3 (0,0))) g.n λv=>vE (hG g (bh ms act) v w) (hG g (bh ms act) s v):=λh' K' v hv⟨x,q1,q2,k,d⟩ hk=>by refine cg (l:=[I v,ptr t4,ptr a5,ptr w7,ptr b]) rfl (aic ?_);unfold T9;refine bJ rfl (bz q1 rfl) (bJ rfl (bz q2 rfl) (bJ rfl (bz k rfl) (bJ rfl (bz q1 rfl) (bJ rfl (bz q2 rfl) (bJ rfl (bz d rfl) ?_)))));refine I9 (H.more x) hR hm hl hv hw (hA.more x) aa λh2 x2=> ?_;refine⟨bJ rfl (bz (x2.get q1) rfl) rfl,bJ rfl (bz (x2.get q2) rfl) rfl,bJ rfl (bz (x2.get d) rfl) rfl,?_⟩;have e:=x.trans x2 λ_ h _=>h;refine I9 (H.more e) hR hm hl hs hv (hA.more e) aa λh3 p=> ?_;have n1:=XM (act:=act) hR hm hv hw;have n2:=XM (act:=act) hR hm hs hv;exact amf n1.1 n1.2 n2.1 n2.2 λh4 u=>hk h4 ((x2.trans p λ_ h _=>h).trans u λ_ h _=>h)
 refine amg (stop:=λ_=>True) c (XK (t:=t) (ms:=ms) (T1:=48) (T2:=369) hF aa) aa (λRs h' o'=> ?_) λpv h8 y=> ?_
 .have q:∀(i:Nat)(R:aS),[ak b3 [.func (.func 330) #[] #[ptr t4,ptr a5,ptr w7,ptr b]] 369,ak b2 [ptr t] 48,ak w7 [I w] 3,ak b [I s] 3,ak a5 [va] 43,ak t4 [ptr t] 48][i]? =some R->R.Q h':=λi R hi=>o'.get (Rs.length+i) (by rw[eR aa,show Rs.length+i-Rs.length=i by omega];exact hi);exact⟨q 1 _ rfl,q 0 _ rfl,H.more o'.ext,o'.ext,q 5 _ rfl,q 4 _ rfl,q 2 _ rfl,q 3 _ rfl⟩
 .exact hK pv h8 (o.frame (y.bh [0] az))
end
abbrev gw(p:jK)(dv:Value):List Value:=[I p.marks,I p.rule,dv,I p.kind,I p.cells]
abbrev om(p:jK)(dv:Value):Value:=.agg (gw p dv).toArray
def fk(f:Nat):Value:=.func (.func f) #[] #[]
def qU(p:Nat×Int):List Value:=[fk p.1,I p.2]
def amu(p:Nat×Int):∀u∈qU p,Mh.plainCell u=true:=by intro u hu;simp[qU]at hu;rcases hu with rfl|rfl<;>rfl
section
variable{h0 h:af}{L:List aS}{K:KT}{p:jK}{dv:Value}
def tS:Int->Option Value:=cM (cM (λ_=>none) 0 (fk 57)) 1 (fk 58)
def tT:Int->Option Value:=cM (cM (cM (λ_=>none) 0 (fk 63)) 1 (fk 64)) 2 (fk 65)
def XZ(o:Own h0 h L)(hK:∀m h',Own h0 h' (eD m tS::L)->K (.map (some m)) h'):ah prog 17 [] h K:=by refine aK (ada ?_);unfold MP;exact o.mkMap λm h1 o1=>o1.mZ 0 rfl (f':=cM (λ_=>none) 0 (fk 57)) (λx=>rfl) λh2 o2=>o2.mZ 0 rfl (f':=tS) (λx=>rfl) λh3 a=>hK m h3 a
def X0(o:Own h0 h L)(hK:∀m h',Own h0 h' (eD m tT::L)->K (.map (some m)) h'):ah prog 21 [] h K:=by refine aK (adg ?_);unfold MU;exact o.mkMap λm h1 o1=>o1.mZ 0 rfl (f':=cM (λ_=>none) 0 (fk 63)) (λx=>rfl) λh2 o2=>o2.mZ 0 rfl (f':=cM (cM (λ_=>none) 0 (fk 63)) 1 (fk 64)) (λx=>rfl) λh3 a=>a.mZ 0 rfl (f':=tT) (λx=>rfl) λh4 b=>hK m h4 b
def X1{z:Int}:(z=0/\tS z=some (fk 57))\/(z=1/\tS z=some (fk 58))\/(z≠0/\z≠1/\tS z=none):=by
 by_cases h0:z=0
 .subst h0;exact .inl ⟨rfl,rfl⟩
 .by_cases h1:z=1
  .subst h1;exact .inr (.inl ⟨rfl,rfl⟩)
  .refine .inr (.inr ⟨h0,h1,?_⟩);unfold tS cM;rw[aQ h1,aQ h0]
def X2{z:Int}:(z=0/\tT z=some (fk 63))\/(z=1/\tT z=some (fk 64))\/(z=2/\tT z=some (fk 65))\/(z≠0/\z≠1/\z≠2/\tT z=none):=by
 by_cases h0:z=0
 .subst h0;exact .inl ⟨rfl,rfl⟩
 .by_cases h1:z=1
  .subst h1;exact .inr (.inl ⟨rfl,rfl⟩)
  .by_cases h2:z=2
   .subst h2;exact .inr (.inr (.inl ⟨rfl,rfl⟩))
   .refine .inr (.inr (.inr ⟨h0,h1,h2,?_⟩));unfold tT cM;rw[aQ h2,aQ h1,aQ h0]
def AP{f:Nat}{K:Value->Prop}(hK:K (.bool true)):bL true .func (fk f) .nilFunc K:=hK
def X3{K:Value->Prop}(hK:K (.bool false)):bL true .func .nilFunc .nilFunc K:=hK
def ck(p:jK):Nat->Bool
 |0=>decide (0<=p.marks/\p.marks<=16)
 |1=>decide (p.rule=0\/p.rule=1)
 |2=>decide (p.kind=0\/p.kind=1\/p.kind=2)
 |_=>decide (p.kind=0\/(1<=p.cells/\p.cells<=256))
def amv(hK:∀h',Ext h h'->K (.bool (ck p 0)) h'):aX prog (fk 44) [om p dv].toArray h K:=by
 refine cg (l:=[om p dv]) rfl (adB ?_);unfold Nr;refine(Own.start h).box λb h1 o1=> ?_;have o1:Own h h1 [ak b (gw p dv) 35]:=o1;have hk:=hK h1 o1.ext;simp only[aU,bE];refine o1.load 0 rfl rfl ?_;rw[dA,bA];refine⟨λh1=>o1.load 0 rfl rfl ?_,λh1=> ?_⟩
 .rw[lS];rw[show ck p 0=decide (p.marks<=16)from pN.2 ⟨λh=>h.2,λh=>⟨h1,h⟩⟩]at hk;exact hk
 .rw[show ck p 0=false from bR λh=>h1 h.1]at hk;exact hk
def amw(hK:∀h',Ext h h'->K (.bool (ck p 1)) h'):aX prog (fk 45) [om p dv].toArray h K:=by
 refine cg (l:=[om p dv]) rfl (adC ?_);unfold Ns;refine(Own.start h).box λb h1 o1=> ?_;have o1:Own h h1 [ak b (gw p dv) 35]:=o1;simp only[aU,bE];refine o1.load 0 rfl rfl (XZ o1 λm h2 o2=>⟨o2.load 1 rfl rfl rfl,o2.look 0 rfl ?_⟩);simp only[gm,dN];have hk:=hK h2 o2.ext;rcases @X1 p.rule with ⟨e,h⟩|⟨e,h⟩|⟨e1,e2,h⟩
 .rw[h,e8];rw[show ck p 1=true from bT (.inl e)]at hk;exact AP hk
 .rw[h,e8];rw[show ck p 1=true from bT (.inr e)]at hk;exact AP hk
 .rw[h,mR];rw[show ck p 1=false from bR λh=>h.elim e1 e2]at hk;exact X3 hk
def amx(hK:∀h',Ext h h'->K (.bool (ck p 2)) h'):aX prog (fk 46) [om p dv].toArray h K:=by
 refine cg (l:=[om p dv]) rfl (adD ?_);unfold Nt;refine(Own.start h).box λb h1 o1=> ?_;have o1:Own h h1 [ak b (gw p dv) 35]:=o1;simp only[aU,bE];refine o1.load 0 rfl rfl (X0 o1 λm h2 o2=>⟨o2.load 1 rfl rfl rfl,o2.look 0 rfl ?_⟩);simp only[gm,dN];have hk:=hK h2 o2.ext;rcases @X2 p.kind with ⟨e,h⟩|⟨e,h⟩|⟨e,h⟩|⟨e1,e2,e3,h⟩
 .rw[h,e8];rw[show ck p 2=true from bT (.inl e)]at hk;exact AP hk
 .rw[h,e8];rw[show ck p 2=true from bT (.inr (.inl e))]at hk;exact AP hk
 .rw[h,e8];rw[show ck p 2=true from bT (.inr (.inr e))]at hk;exact AP hk
 .rw[h,mR];rw[show ck p 2=false from bR λh=>h.elim e1 λh=>h.elim e2 e3]at hk;exact X3 hk
def amy(hK:∀h',Ext h h'->K (.bool (ck p 3)) h'):aX prog (fk 47) [om p dv].toArray h K:=by
 refine cg (l:=[om p dv]) rfl (adE ?_);unfold Nu;refine(Own.start h).box λb h1 o1=> ?_;have o1:Own h h1 [ak b (gw p dv) 35]:=o1;have hk:=hK h1 o1.ext;simp only[aU,bE];refine o1.load 0 rfl rfl ?_;rw[cF,kD];refine⟨λe=> ?_,λe=>o1.load 0 rfl rfl ?_⟩
 .rw[show ck p 3=true from bT (.inl e)]at hk;exact hk
 rw[dA,bA];refine⟨λh1=>o1.load 0 rfl rfl ?_,λh1=> ?_⟩
 .rw[lS];rw[show ck p 3=decide (p.cells<=256)from pN.2 ⟨λh=>(h.resolve_left e).2,λh=>.inr ⟨h1,h⟩⟩]at hk;exact hk
 .rw[show ck p 3=false from bR λh=>h1 (h.resolve_left e).1]at hk;exact hk
def rules:List (Nat×Int):=[(44,11),(45,12),(46,13),(47,14)]
def amz{lv:Value}(H:Vw qU 2 h lv rules)(hn:(∀i,i<4->ck p i=true)->∀h',Ext h h'->K .nilIface h')
  (hs:∀i,i<4->ck p i=false->(∀j,j<i->ck p j=true)->∀b h',Own h h' [ak b [I (11+i:Nat),I 0,I 0,I 0] 120]->K (.iface 122 (ptr b)) h'):ah prog 43 [om p dv,lv] h K:=by
 refine aK (adA ?_);unfold Nq;refine(Own.start h).box λp2 h1 o1=> ?_;have o1:Own h h1 [ak p2 (gw p dv) 35]:=o1;refine H.len ?_;refine bV 4 (λi x h'=>x.1=I i/\(∀j,j<i->ck p j=true)/\Own h h' [ak p2 (gw p dv) 35]) ⟨rfl,λj h=>absurd h aa,o1⟩ ?_;clear o1;rintro i ⟨x,⟨⟩⟩ h' Z hi ⟨hx,hp,o⟩ hZ;dsimp only at hx hZ |-;subst hx;unfold Np;rw[bC,show(rules.length:Int)=4 from rfl,bA];refine⟨λhlt=> ?_,λhge=> ?_⟩
 .have hlt:i<4:=aa;refine(H.more o.ext).jW (λ_=>rfl) (show i<rules.length from hlt) ?_;refine o.box λk h2 o2=> ?_;refine o2.st (l:=qU rules[i]) (cs':=qU rules[i]) 0 rfl rfl rfl rfl rfl (amu _) λh3 a=> ?_;simp only[aU,bE];refine a.load 0 rfl rfl (a.bZ 1 rfl rfl rfl ?_);have d:rules[i].2=((11+i:Nat):Int):=by
   have :i=0\/i=1\/i=2\/i=3:=aa;rcases this with rfl|rfl|rfl|rfl<;>rfl
  have hF:∀{K':KT},(∀h4,Ext h3 h4->K' (.bool (ck p i)) h4)->aX prog (fk rules[i].1) [om p dv].toArray h3 K':=λhk=>by
   have :i=0\/i=1\/i=2\/i=3:=aa;rcases this with rfl|rfl|rfl|rfl
   .exact amv hk
   .exact amw hk
   .exact amx hk
   .exact amy hk
  refine hF λh4 f=> ?_;have c:=a.more f;rw[bP];cases hc:ck p i with
  |true=>
   rw[cz,aO,bw,wI i aa];refine hZ (I (i+1:Nat),()) h4 hlt ⟨rfl,λj hj=> ?_,c.bh [1] az⟩;by_cases e:j=i
   .subst e;exact hc
   .exact hp j aa
  |false=>rw[dL,bF];refine c.load 0 rfl rfl ?_;rw[d];refine cE (cs':=[I (11+i:Nat),I 0,I 0,I 0]) (by intro p hp;simp at hp;subst hp;rfl) rfl rfl ?_;exact c.box λb h5 g=>hs i hlt hc hp b h5 (g.bh [0] az)
 .exact hn (λj hj=>hp j aa) h' o.ext
def ye:(p.wrong=0↔∀i,i<4->ck p i=true)/\∀i,i<4->ck p i=false->(∀j,j<i->ck p j=true)->p.wrong=((11+i:Nat):Int):=by
 unfold jK.wrong;constructor
 .constructor
  .intro h i hi;have :i=0\/i=1\/i=2\/i=3:=aa;split at h
   .cases h
   split at h
   .cases h
   split at h
   .cases h
   split at h
   .cases h
   rename_i a b c d;rcases this with rfl|rfl|rfl|rfl
   .exact bT (lM.1 a)
   .exact bT (lM.1 b)
   .exact bT (lM.1 c)
   .exact bT (lM.1 d)
  .intro h;have a:=gM (h 0 az);have b:=gM (h 1 az);have c:=gM (h 2 az);have d:=gM (h 3 az);rw[aQ (lM.2 a),aQ (lM.2 b),aQ (lM.2 c),aQ (lM.2 d)]
 .intro i hi hf hp;have :i=0\/i=1\/i=2\/i=3:=aa;rcases this with rfl|rfl|rfl|rfl
  .rw[aW (BD hf)];rfl
  .rw[aQ (lM.2 (gM (hp 0 az))),aW (BD hf)];rfl
  .rw[aQ (lM.2 (gM (hp 0 az))),aQ (lM.2 (gM (hp 1 az))),aW (BD hf)];rfl
  .rw[aQ (lM.2 (gM (hp 0 az))),aQ (lM.2 (gM (hp 1 az))),aQ (lM.2 (gM (hp 2 az))),aW (BD hf)];rfl
def amA(hn:p.wrong=0->∀h',Ext h h'->K .nilIface h')
  (hs:p.wrong≠0->∀b h',Own h h' [ak b [I p.wrong,I 0,I 0,I 0] 120]->K (.iface 122 (ptr b)) h'):ah prog 14 [om p dv] h K:=by
 refine aK (ac7 ?_);unfold MK;refine(Own.start h).box λp1 h1 o1=> ?_;have o1:Own h h1 [ak p1 (gw p dv) 35]:=o1;refine o1.bZ 0 rfl rfl rfl ?_;refine cE (cs':=qU (44,11)) (by intro p hp;simp at hp;rcases hp with rfl|rfl<;>rfl) rfl rfl ?_;refine cE (cs':=qU (45,12)) (by intro p hp;simp at hp;rcases hp with rfl|rfl<;>rfl) rfl rfl ?_;refine cE (cs':=qU (46,13)) (by intro p hp;simp at hp;rcases hp with rfl|rfl<;>rfl) rfl rfl ?_;refine cE (cs':=qU (47,14)) (by intro p hp;simp at hp;rcases hp with rfl|rfl<;>rfl) rfl rfl ?_;refine o1.build (enc:=qU) (n:=2) rules rfl (bW rfl) rfl λlv h2 o2=> ?_;obtain⟨w1,w2⟩:=@ye p;refine amz (p:=p) (dv:=dv) (o2.vw 0 rfl) (λhall h' x=>hn (w1.2 hall) h' (o2.uS x)) λi hi hf hp b h' c=> ?_;have hw:=w2 i hi hf hp;have a:=o2.frame c;rw[<-hw]at a;exact hs (by rw[hw];omega) b h' (a.bh [0] az)
end
section
variable{h0 h:af}{L:List aS}{K:KT}{g:G}{r c:Nat}{v:Value}{xs ys:List Int}
def amB{va vb:Value}(Ha:Vw aJ 1 h va xs)(Hb:Vw aJ 1 h vb ys)(hl:xs.length<2^40)(hK:K (.bool (decide (xs=ys))) h):ah prog 59 [va,vb] h K:=by
 refine aK (adO ?_);unfold NK;refine Ha.len (Hb.len ?_);by_cases hxy:xs.length=ys.length
 .rw[fe,show((xs.length:Int) != (ys.length:Int))=false by simp[hxy],aO];refine Ha.len ?_;refine bV xs.length (λi x h'=>x.1=I i/\h'=h/\xs.take i=ys.take i) ⟨rfl,rfl,rfl⟩ ?_;rintro i ⟨x,⟨⟩⟩ h' Z hi ⟨hx,rfl,hp⟩ hZ;dsimp only at hx hZ |-;subst hx;unfold NJ;simp only[bC,bA];refine⟨λhlt=> ?_,λhge=> ?_⟩
  .have hlt:i<xs.length:=aa;refine Ha.Im hlt (Hb.Im aa ?_);rw[fe];by_cases e:xs[i]=ys[i]'aa
   .rw[e,iK,aO,bw,wI i aa];refine hZ (I (i+1:Nat),()) _ hlt ⟨rfl,rfl,?_⟩;rw[cW hlt,cW (show i<ys.length by omega),hp,e]
   .rw[show(xs[i] != ys[i]'aa)=true by simpa using e,bF];have :xs≠ys:=λh=>e (by subst h;rfl);rw[bR this]at hK;exact hK
  .have :xs=ys:=by
    rw[fM aa,fM aa]at hp;exact hp
   rw[bT this]at hK;exact hK
 .rw[fe,show((xs.length:Int) != (ys.length:Int))=true by simp;omega,bF];have :xs≠ys:=λh=>hxy (by rw[h]);rw[bR this]at hK;exact hK
def amC(H:Vw aJ 1 h v xs)(hne:xs≠ [])(hl:xs.length<2^40)(hK:K (I (jg xs)) h):ah prog 60 [v] h K:=by
 refine aK (adP ?_);unfold NM;cases xs with
 |nil=>exact absurd rfl hne
 |cons z rs=>
 refine H.len ?_;rw[bC,bR (by rw[fO];omega),aO];refine H.Im (i:=0) aP ?_;refine bV rs.length (λi x h'=>x.1=I ((rs.take i).foldl max z)/\x.2.1=I (i+1:Nat)/\h'=h) ⟨rfl,rfl,rfl⟩ ?_;rintro i ⟨y,x,⟨⟩⟩ h' Z hi ⟨hy,hx,rfl⟩ hZ;dsimp only at hy hx hZ |-;subst hy hx;unfold NL;refine H.len ?_;rw[fO]at hl |-;simp only[bC,bA];refine⟨λhlt=> ?_,λhge=> ?_⟩
 .have hlt:i<rs.length:=aa;refine H.Im (i:=i+1) (by simp;omega) ?_;rw[vZ,oI,bw,wI (i+1) aa];refine hZ (_,(I (i+1+1:Nat),())) _ hlt ⟨?_,rfl,rfl⟩;rw[cW hlt,jP,kS,List.foldl_nil];have hm:∀a b:Int,(if b>a then b else a)=max a b:=λa b=>by
   rw[Int.max_def];split<;>split<;>omega
  rw[hm]
 .have :rs.take i=rs:=fM aa;rw[this];exact hK
def X4(o:Own h0 h L)(H:Vw aJ 1 h v xs)(hl:xs.length<2^40)(hK:∀w h',Own h0 h' (aC aJ 1 3 w (norm xs)::L)->K w h'):ah prog 20 [v] h K:=by
 refine aK (adf ?_);unfold MT;refine aK (adR ?_);unfold NP;refine(Own.start h).mkMap λm h1 o1=>o1.box λn h2 o2=>o2.bu 0 (cs':=[.map (some m)]) rfl rfl rfl rfl rfl λh3 a=> ?_;refine aK (adQ ?_);unfold NO;have b:Own h h3 (aC aJ 1 3 (.slice none 0 0) ([]:List Int)::ak n [.map (some m)] 170::eD m (qO []):: []):=Own.ef (enc:=aJ) (n:=1) (T:=3) a;refine H.len ?_;refine bV xs.length (λi x h'=>x.2.1=I i/\Own h h' (aC aJ 1 3 x.1 (jI [] (xs.take i))::ak n [.map (some m)] 170::eD m (qO (gx [] (xs.take i))):: [])) ⟨rfl,b⟩ ?_;clear o1 o2 a b;rintro i ⟨w,x,⟨⟩⟩ h' Z hi ⟨hx,o'⟩ hZ;dsimp only at hx hZ |- o';subst hx;unfold NN;simp only[bC,bA];refine⟨λhlt=> ?_,λhge=> ?_⟩
 .have hlt:i<xs.length:=aa;refine(H.more o'.ext).Im hlt ?_;refine cg (l:=[I xs[i],ptr n]) rfl (aeW ?_);unfold Pv;have hlen:(gx [] (xs.take i)).length<=i:=by
   have :=Mf (l:=xs.take i) (ns:=[]);rw[dO,vX]at this;omega
  have hnl:(jI [] (xs.take i)).length<=i:=by rw[Gm,dO];omega
  have e1:jI [] (xs.take (i+1))=jI [] (xs.take i)++ [((gx [] (xs.take i)).idxOf xs[i]:Int)]:=by rw[cW hlt,Me];rfl
  have e2:gx [] (xs.take (i+1))=gZ (gx [] (xs.take i)) xs[i]:=by rw[cW hlt,acS];rfl
  have fin:∀h'',Own h h'' (aC aJ 1 3 w (jI [] (xs.take i))::ak n [.map (some m)] 170::eD m (qO (gx [] (xs.take (i+1)))):: [])->uX 3 (bO [(.int .i64 0)] 1) [(0,1,I ((gx [] (xs.take i)).idxOf xs[i]:Nat))] 1 h'' λt17 h_3=>
    uY 3 1 8 [(.int .i64 0)] w t17 h_3 λt18 h_4=>aq .add (I i) (.int .i64 1) λt19=>(λa0 a1 hz=>Z (a0,(a1,())) hz) t18 t19 h_4:=λh'' o2=>by
   refine o2.fH 0 ((gx [] (xs.take i)).idxOf xs[i]:Int) rfl rfl (bW rfl) (λ_=>rfl) jb rfl az aa λw' h5 d=> ?_;rw[bw,wI i aa];refine hZ (w',(I (i+1:Nat),())) h5 hlt ⟨rfl,?_⟩;rw[e1];exact d
  refine o'.load 1 rfl rfl (o'.look 2 rfl ?_);simp only[e7,cC,cB];by_cases hz:xs[i]∈gx [] (xs.take i)
  .have e3:qO (gx [] (xs.take i)) xs[i]=some (I ((gx [] (xs.take i)).idxOf xs[i]:Nat)):=aW hz;rw[e3,kz,bP,cz,aO];unfold CP;refine fin h' ?_;rw[e2,show gZ (gx [] (xs.take i)) xs[i]=gx [] (xs.take i)from aW hz];exact o'
  .have e3:qO (gx [] (xs.take i)) xs[i]=none:=aQ hz;rw[e3,mw,bP,dL,bF];refine o'.load 1 rfl rfl ?_;obtain⟨es,cl,e,hm2⟩:=o'.get 2 rfl;have hsz:=acQ hm2 (Gn .nil);simp only[sV,e];refine o'.load 1 rfl rfl (o'.mZ 2 rfl (f':=qO (gx [] (xs.take (i+1)))) (λx=> ?_) λh2 o2=> ?_)
   .rw[e2,show gZ (gx [] (xs.take i)) xs[i]=gx [] (xs.take i)++ [xs[i]]from aQ hz,acR hz,hsz]
   .unfold CP;have :=fin h2 o2;rw[Bu hz,<-hsz]at this;exact this
 .have :xs.take i=xs:=fM aa;rw[this]at o';exact hK w h' (o.frame (o'.bh [0] az))
def qV(v:Value)(l:List Int):List Value:=[v,I (jg l+1)]
def iB(h:af)(c:Nat)(l:List Int):Prop:=∃v,h[c]? =some (.cells (qV v l).toArray 140 (0,0))/\Vw aJ 1 h v l
def iB.more{h':af}(H:iB h c xs)(x:Ext h h'):iB h' c xs:=by obtain⟨s,h1,h2⟩:=H;exact⟨s,x.get h1,h2.more x⟩
def X5(o:Own h0 h L)(p:Nat)(hp:L[p]? =some (aC aJ 1 3 v xs))(hne:xs≠ [])(hn:norm xs=xs)(hl:xs.length<2^40)(hm:jg xs<256)(hm0:0<=jg xs)
  (hK:∀c v' h',Own h0 h' (ak c (qV v' xs) 140::aC aJ 1 3 v' xs::L)->K (ptr c) h'):ah prog 19 [v] h K:=by
 refine aK (ade ?_);unfold MS;refine(o.vw p hp).len ?_;have hpos:0<xs.length:=ur.2 hne;rw[cF,show((xs.length:Int)==0)=false by simp;omega,aO];refine X4 o (o.vw p hp) hl λw h1 o1=> ?_;refine amB (o1.vw 0 rfl) (o1.vw (p+1) (by simpa using hp)) (by rw[hn];exact hl) ?_;rw[bT hn,bP,cz,aO];refine xO o1 (o1.vw (p+1) (by simpa using hp)) aa λv' h2 o2=> ?_;refine amC (o2.vw (p+2) (by simpa using hp)) hne hl ?_;rw[bw,bK aa aa];have hv:=o2.vw 0 rfl;refine cE (cs':=qV v' xs) ?_ rfl rfl ?_
 .intro p hp;simp at hp;rcases hp with rfl|rfl
  .exact hv.one
  .rfl
 refine o2.box λc h3 a=> ?_;have a:Own h0 h3 (ak c (qV v' xs) 140::aC aJ 1 3 v' xs::aC aJ 1 3 w (norm xs)::L):=a;simp only[bD,aU];refine a.load 0 rfl rfl ?_;rw[akS,bR aa,aO];exact hK c v' h3 (a.erase 2)
def Ji{i:Nat}(H:iB h c xs)(hi:i<xs.length)(hK:K (I (aL xs i)) h):ah prog 193 [ptr c,I i] h K:=by obtain⟨s,hb,hv⟩:=H;refine aK (afZ ?_);unfold aqV;have c0:hcell h ⟨c,0,none⟩=some s:=bz hb rfl;simp only[dM,dW,aO];rw[bC,bR aa,aO];simp only[bD,aU,dh,bE,c0];refine hv.len ?_;rw[dA,bR aa,aO];refine hv.zL hi λb o hc=> ?_;simp only[dh,hc];rw[jc hi];exact hK
def DW(H:iB h c xs)(hK:K (I (jg xs+1)) h):ah prog 68 [ptr c] h K:=by obtain⟨s,hb,hv⟩:=H;refine aK (adW ?_);unfold NY;have c0:hcell h ⟨c,1,none⟩=some (I (jg xs+1)):=bz hb rfl;simp only[dM,dW,aO,bD,aU,dh,bE,c0];exact hK
def X6(o:Own h0 h L)(H:iB h c xs)(hl:xs.length<=2^40)(hK:∀w h',Own h0 h' (aC aJ 1 3 w xs::L)->K w h'):ah prog 137 [ptr c] h K:=by obtain⟨s,hb,hv⟩:=H;refine aK (ae1 ?_);unfold PE;have c0:hcell h ⟨c,0,none⟩=some s:=bz hb rfl;simp only[dM,dW,aO,bD,aU,dh,bE,c0];exact xO o hv hl hK
end
section
variable{h0 h:af}{L:List aS}{K:KT}{vd:Value}
def Yb{fv:Value}{Q:af->Prop}{σ:Type}{s0:σ}{next :σ->List Value->σ->Prop}{stop:σ->Prop}(o:Own h0 h L)(hI:iG prog fv Q s0 next stop)(g:σ->List Int)(g0:g s0=[])
  (hf:∀s x s',next s x s'->∃a,x=[I a]/\g s'=g s++ [a]/\(g s').length<2^40) (hQ:∀(Rs:List aS) h',Own h0 h' (Rs++L)->Q h')
  (hK:∀w h' s,stop s->Own h0 h' (aC aJ 1 3 w (g s)::L)->K w h'):ah prog 29 [fv] h K:=by
 refine aK (Gy ?_);unfold Cz;refine aK (GH ?_);unfold CL;refine o.box λs2 h1 o1=> ?_;have o2:Own h0 h1 (aC aJ 1 3 (.slice none 0 0) (g s0)::ak s2 [.slice none 0 0] 43::L):=by rw[g0];exact Own.ef (enc:=aJ) (n:=1) (T:=3) o1
 refine o2.range hI (λs x s' hn=>by obtain⟨a,rfl,_⟩:=hf s x s' hn;rfl)
  (λs Rs=>∃w,Rs=aC aJ 1 3 w (g s)::ak s2 [w] 43::L) (λ_=>False) (λ_ _=>False) ⟨_,rfl⟩ ?_ ?_ ?_ (λ_ _ h=>h.elim) (λ_ _ _ h=>h.elim)
 .rintro s Rs h' ⟨w,rfl⟩ o';exact hQ [_,_] h' o'
 .rintro M s x s' Rs Pr h' R hn ⟨w,rfl⟩ o' hN _ _;obtain⟨a,rfl,hg,c⟩:=hf s x s' hn;dsimp only[gh];unfold CK;refine o'.begin 0 rfl λh4 b=> ?_;have b:Own h0 h4 (cD _ _::cw _::aC aJ 1 3 w (g s)::ak s2 [w] 43::(L++Pr)):=b;refine b.load 3 rfl rfl ?_;rw[hg,cG]at c;refine b.fH 2 a rfl rfl (bW rfl) (λ_=>rfl) jb rfl az (by simp at c;omega) λw' h5 d=> ?_;have hw':=d.vw 2 rfl;refine d.bu 3 (cs':=[w']) rfl rfl rfl hw'.one hw'.plain λh6 e=> ?_;refine hN _ h6 ⟨w',rfl⟩ ?_;rw[hg];exact e
 .rintro s h' Rs hs ⟨w,rfl⟩ o';refine o'.load 2 rfl rfl (o'.jV 0 rfl λh10 f=>hK w h10 s hs ?_);exact f.tail.front 2 [0] az az
end
section
variable{h0 h:af}{L:List aS}{K:KT}{b rows wide dK row i:Nat}{s:Value}{bs:List UInt8}
def amJ{n:Nat}{x i:Value}{K K':Value->Prop}(h:aY n x i K)(hk:∀v,K v->K' v):aY n x i K':=by
 unfold aY at *;split
 .exact⟨h.1,h.2.1,hk _ h.2.2⟩
 .rename_i hno;split at h
  .exact(hno _ _ _ _ _ _ rfl rfl).elim
  .exact h
def j8(rows wide:Nat)(s:Value):List Value:=[I rows,I wide,I (bM wide:Nat),s]
def mM(h:af)(b rows wide:Nat)(bs:List UInt8):Prop:=∃s,h[b]? =some (.cells (j8 rows wide s).toArray 238 (0,0))/\Vw eA 1 h s bs
def mM.more{h':af}(H:mM h b rows wide bs)(x:Ext h h'):mM h' b rows wide bs:=by obtain⟨s,h1,h2⟩:=H;exact⟨s,x.get h1,h2.more x⟩
def Jn(hb:h[b]? =some (.cells (j8 rows wide s).toArray 238 (0,0)))(hK:K (I rows) h):ah prog 187 [ptr b] h K:=by refine aK (afT ?_);unfold Q5;have c0:hcell h ⟨b,0,none⟩=some (I rows):=bz hb rfl;simp only[dM,dW,aO,bD,aU,dh,bE,c0];exact hK
def DY(hb:h[b]? =some (.cells (j8 rows wide s).toArray 238 (0,0)))(hK:K (I wide) h):ah prog 188 [ptr b] h K:=by refine aK (afU ?_);unfold Q6;have c0:hcell h ⟨b,1,none⟩=some (I wide):=bz hb rfl;simp only[dM,dW,aO,bD,aU,dh,bE,c0];exact hK
def amK{k:Nat}{K:Value->Prop}(hk:k<8)(hK:K (.int .u8 (kN k).toNat)):aq .shl (.int .u8 1) (I k) K:=by show 0<=(k:Int)/\K (.int .u8 (IntKind.u8.wrap (1*2^(min (k:Int).toNat IntKind.u8.bits))));rw[amD ⟨k,hk⟩];exact⟨aa,hK⟩
def Yc{a:Value}(hb:h[b]? =some (.cells (j8 rows wide s).toArray 238 (0,0)))(h1:row<rows)(h2:i<wide)(hm:rows*bM wide<2^40)
  (hK:aY 1 s (I (row*bM wide+i/8:Nat)) λt=>aX prog a [t,.int .u8 (kN (i%8)).toNat].toArray h K):ah prog 145 [ptr b,I row,I i,a] h K:=by
 refine aK (ae9 ?_);unfold PT;rw[bC,bR aa,aO];refine Jn hb ?_;rw[dA,bR aa,aO,bC,bR aa,aO];refine DY hb ?_;rw[dA,bR aa,aO];have c2:hcell h ⟨b,2,none⟩=some (I (bM wide:Nat)):=bz hb rfl;have c3:hcell h ⟨b,3,none⟩=some s:=bz hb rfl;simp only[bD,aU,dh,bE,c2,c3];have hq:=yg h2;have hlt:=DX h1 hq;have e1:(row:Int)*(bM wide:Nat)=((row*bM wide:Nat):Int):=by rw[uq]
 rw[iO,e1,bK aa aa,pX];refine⟨az,?_⟩;have e2:(i:Int).tdiv 8=((i/8:Nat):Int):=by rw[y8 aa];omega
 rw[e2,bK aa aa,bw,bK aa aa];have e3:((row*bM wide:Nat):Int)+((i/8:Nat):Int)=((row*bM wide+i/8:Nat):Int):=aa;rw[e3];have fin:∀t,aX prog a [t,.int .u8 (kN (i%8)).toNat].toArray h K->aq .rem (I i) (.int .i64 8) λt43=>aq .shl (.int .u8 1) t43 λt44=>aX prog a [t,t44].toArray h λt45 h_4=>K t45 h_4:=λt ht=>by
  rw[nR];refine⟨az,?_⟩;have c:(i:Int).tmod 8=((i%8:Nat):Int):=by rw[wC aa];omega
  rw[c];exact amK aa ht
 exact amJ hK fin
def amL(H:mM h b rows wide bs)(h1:row<rows)(h2:i<wide)(hm:rows*bM wide<2^40)(hl:bs.length=rows*bM wide)(hK:K (.bool (fV bs (bM wide) row i)) h):ah prog 393 [ptr b,I row,I i] h K:=by
 obtain⟨s,hb,hv⟩:=H;refine aK (ajg ?_);unfold Vv;have hlt:=DX h1 (yg h2);refine Yc hb h1 h2 hm ?_;refine hv.idx (λ_=>rfl) aa λbl o hc=> ?_;have hc:hcell h ⟨bl,o,none⟩=some (.int .u8 (bs[row*bM wide+i/8]'aa).toNat):=by simpa[eA]using hc 0 aa
 refine cg (l:=[.pointer (some ⟨bl,o,none⟩),.int .u8 (kN (i%8)).toNat]) rfl (ajl ?_);unfold VG;simp only[bD,dh,hc];refine⟨rfl,?_⟩;dsimp only;rw[fe,and_val _ ⟨i%8,aa⟩];unfold fV at hK;rw[cI,dD aa,e8]at hK;exact hK
def amM(o:Own h0 h L)(p q:Nat)(hpq:p≠q)(hp:L[p]? =some (ak b (j8 rows wide s) 238))(hq:L[q]? =some (aC eA 1 5 s bs))(h1:row<rows)(h2:i<wide)(hm:rows*bM wide<2^40)(hl:bs.length=rows*bM wide)
  (hK:∀h',Own h0 h' (L.set q (aC eA 1 5 s (qi bs (bM wide) row i)))->K (.bool true) h'):ah prog 71 [ptr b,I row,I i,.bool true] h K:=by
 refine aK (adZ ?_);unfold N1;have hlt:=DX h1 (yg h2);refine o.box λt c o1=> ?_;have hp1:(ak t [Value.bool true] 4::L)[p+1]? =some (ak b (j8 rows wide s) 238):=by simpa using hp
 have hq1:(ak t [Value.bool true] 4::L)[q+1]? =some (aC eA 1 5 s bs):=by simpa using hq
 have o1:Own h0 c (ak t [Value.bool true] 4::L):=o1;refine Yc (o1.get (p+1) hp1) h1 h2 hm ?_;refine o1.acg (q+1) hq1 aa λbl H a=> ?_;have hc:hcell c ⟨bl,(row*bM wide+i/8)*1,none⟩=some (.int .u8 (bs[row*bM wide+i/8]'aa).toNat):=H.slot (m:=1) (λ_=>rfl) aa (j:=0) az;refine cg (l:=[.pointer (some ⟨bl,(row*bM wide+i/8)*1,none⟩),.int .u8 (kN (i%8)).toNat,ptr t]) rfl (afa ?_);unfold PU;simp only[bD,dh,hc];refine⟨rfl,?_⟩;dsimp only;rw[amE _ ⟨i%8,aa⟩];have hgd:bs.getD (row*bM wide+i/8) 0=bs[row*bM wide+i/8]'aa:=by rw[cI,dD aa,e8]
 have gp:∀(bs':List UInt8)(y:UInt8),bs'.length=bs.length->bs'.take (row*bM wide+i/8)++ [y]++bs'.drop (row*bM wide+i/8+ [y].length)=bs'.set (row*bM wide+i/8) y:=λbs' y hy=>by rw[Bl,aW aa];simp
 refine⟨rfl,?_⟩;refine o1.xq (ys:=[bs[row*bM wide+i/8]'aa&&& ~~~kN (i%8)]) (q+1) hq1 (λ_=>rfl) zM H a (by simp;omega) λf o2=> ?_;rw[gp bs _ rfl]at o2;refine o2.load 0 rfl rfl ?_;rw[bF];have d:((ak t [Value.bool true] 4::L).set (q+1) (aC eA 1 5 s (bs.set (row*bM wide+i/8) (bs[row*bM wide+i/8]'aa&&& ~~~kN (i%8)))))[q+1]? =some (aC eA 1 5 s (bs.set (row*bM wide+i/8) (bs[row*bM wide+i/8]'aa&&& ~~~kN (i%8)))):=ng hq1;obtain⟨k,H2⟩:=o2.get (q+1) d;have e2:=H2.blk a;subst e2;have g:hcell f ⟨bl,(row*bM wide+i/8)*1,none⟩=some (.int .u8 (bs[row*bM wide+i/8]'aa&&& ~~~kN (i%8)).toNat):=by have :=H2.slot (m:=1) (λ_=>rfl) (i:=row*bM wide+i/8) (by rw[kV];omega) (j:=0) az;rw[yK]at this;exact this
 simp only[bD,dh,g];refine⟨rfl,?_⟩;dsimp only;rw[or_val _ ⟨i%8,aa⟩];refine⟨rfl,?_⟩;refine o2.xq (ys:=[Jj (bs[row*bM wide+i/8]'aa) (i%8)]) (q+1) d (λ_=>rfl) zM H2 a (by simp;omega) λh3 e=> ?_;rw[gp _ _ aP,jO,jO]at e;unfold GV;refine hK h3 ?_;unfold qi;rw[hgd];exact e.tail
end
section
variable{h0 h:af}{L:List aS}{K:KT}{b rows wide row:Nat}{s:Value}{bs:List UInt8}
def Yd(o:Own h0 h L)(hw:wide<=67108864)(hr:rows*bM wide<=268435456)(c:rows<2^40)
  (hK:∀b s h',Own h0 h' (ak b (j8 rows wide s) 238::aC eA 1 5 s (List.replicate (rows*bM wide) 0)::L)->K (ptr b) h'):ah prog 67 [I rows,I wide] h K:=by
 refine aK (adV ?_);unfold NX;have fin:CE prog (I rows) (I (bM wide:Nat)) (I wide) K h:=by
  unfold CE;have e1:(rows:Int)*(bM wide:Nat)=((rows*bM wide:Nat):Int):=by rw[uq]
  rw[iO,e1,bK aa aa];refine o.make (enc:=eA) (n:=1) (a:=0) rfl aa aa λw h1 o1=> ?_;have hv:=o1.vw 0 rfl;refine cE (cs':=[I rows,I wide,I (bM wide:Nat),w]) ?_ rfl rfl ?_
  .intro p hp;simp at hp;rcases hp with rfl|rfl|rfl|rfl
   .rfl
   .rfl
   .rfl
   .exact hv.one
  refine o1.box λb h2 o2=>hK b w h2 o2
 rw[bC,bR aa,aO,bC,bR aa,aO,akS,bR aa,aO,bw,bK aa aa,fc,bK aa aa,pX];refine⟨az,?_⟩;have e2:((wide:Int)+8-1).tdiv 8=((bM wide:Nat):Int):=by rw[y8 aa];unfold bM;omega
 have hlb:bM wide<=67108864:=by unfold bM;omega
 rw[e2,bK aa aa,akS,bA];refine⟨λhp=> ?_,λ_=>fin⟩;rw[pX];refine⟨aa,?_⟩;have e3:(268435456:Int).tdiv ((bM wide:Nat):Int)=((268435456/bM wide:Nat):Int):=by rw[y8 aa];exact(Int.natCast_ediv 268435456 (bM wide)).symm
 have h3:rows<=268435456/bM wide:=(Nat.le_div_iff_mul_le aa).2 hr;have h4:268435456/bM wide<=268435456:=E8 _ _;rw[e3,bK aa aa,akS,bR aa,aO];exact fin
def amN{b2 r3:Nat}{T1 T2:TypeId}(hr:row<rows)(hm:rows*bM wide<2^40)(hw:wide<2^40)(hl:bs.length=rows*bM wide):
  iG prog (.func (.func 392) #[] #[ptr b2,ptr r3]) (λh=>h[b2]? =some (.cells #[ptr b] T1 (0,0))/\h[r3]? =some (.cells #[I row] T2 (0,0))/\mM h b rows wide bs) (σ:=Nat) 0 (zS wide λi=>fV bs (bM wide) row i) (u0 wide λi=>fV bs (bM wide) row i):=by
 rintro yv h0 h Rs K J E ⟨l,rfl⟩ o d hQ hY hK;refine jE (l:=[dS l,ptr b2,ptr r3]) rfl (ajf ?_);unfold Vu;obtain⟨j,_,hb⟩:=hQ _ _ _ d o;have cm:hcell h ⟨b2,0,none⟩=some (ptr b):=bz j rfl;refine bJ rfl cm ?_;obtain⟨s,m,_⟩:=hb;refine DY m ?_;generalize hf:(λi=>fV bs (bM wide) row i)=f at hY hK;refine bV wide (λi x h'=>x.1=I i/\∃s c,s<=i/\(∀k,s<=k->k<i->f k=false)/\J s c/\Own h0 h' c) ⟨rfl,0,Rs,cq _,λk _ h=>absurd h aa,d,o⟩ ?_;rintro i ⟨x,⟨⟩⟩ h Z hi ⟨hx,s,c,hs,hno,hj,o⟩ hZ;dsimp only at hx hZ |-;subst hx;unfold Vt;simp only[bC,bA];refine⟨λhlt=> ?_,λhge=> ?_⟩
 .have hlt:i<wide:=aa;obtain⟨n,p,hq⟩:=hQ _ _ _ hj o;have c1:hcell h ⟨b2,0,none⟩=some (ptr b):=bz n rfl;have c2:hcell h ⟨r3,0,none⟩=some (I row):=bz p rfl;refine bJ rfl c1 (bJ rfl c2 ?_);refine amL hq hr hlt hm hl ?_;rw[show fV bs (bM wide) row i=f i by rw[<-hf]];by_cases a:f i=true
  .rw[a,bF];refine hY s _ (i+1) c [] h _ ⟨i,hs,hlt,a,hno,rfl,rfl⟩ hj o.oK (λg h'' hj' o'=> ?_) λg h'' he o'=> ?_
   .unfold Da;rw[bP,cz,aO,bw,wI i aa];exact hZ (I (i+1:Nat),()) h'' hlt ⟨rfl,i+1,g,cq _,λk _ h=>absurd h aa,hj',o'.gi⟩
   .rw[bP,dL,bF];exact hK _ _ (.inr he) o'.gi
  .have a:f i=false:=by simpa using a
   unfold Da;rw[a,aO,bw,wI i aa];refine hZ (I (i+1:Nat),()) h hlt ⟨rfl,s,c,aa,λk h1 h2=> ?_,hj,o⟩;by_cases e:k=i
   .subst e;exact a
   .exact hno k h1 aa
 .have :i=wide:=aa;subst this;exact hK _ _ (.inl ⟨s,λk h1 h2=>hno k h1 h2,hj⟩) o
def mj(n:Nat)(f:Nat->Bool)(s:Nat):List Nat:=(List.range s).filter f
def Jo{n:Nat}{f:Nat->Bool}{s j:Nat}(hs:s<=j)(hf:f j=true)(hno:∀k,s<=k->k<j->f k=false):mj n f (j+1)=mj n f s++ [j]:=by
 unfold mj;rw[ku,mD];have e:(List.range j).filter f=(List.range s).filter f:=by
  obtain⟨d,rfl⟩:=Nat.le.dest hs;rw[Bg,mD];have :((List.range d).map (s+ ·)).filter f=[]:=by rw[BC];intro x hx;obtain⟨k,hk,rfl⟩:=cP.1 hx;have :=jw.1 hk;rw[hno _ aa aa];decide
  rw[this,eO]
 rw[e];simp[hf]
def Jp{n:Nat}{f:Nat->Bool}{s:Nat}(hs:s<=n)(h:u0 n f s):mj n f s=(List.range n).filter f:=by
 unfold mj;obtain⟨d,rfl⟩:=Nat.le.dest hs;rw[Bg,mD];have :((List.range d).map (s+ ·)).filter f=[]:=by rw[BC];intro x hx;obtain⟨k,hk,rfl⟩:=cP.1 hx;have :=jw.1 hk;rw[h _ aa aa];decide
 rw[this,eO]
def amO(o:Own h0 h L)(hN:∀h',Ext h h'->mM h' b rows wide bs)(hr:row<rows)(hm:rows*bM wide<2^40)(hw:wide<2^39)(hl:bs.length=rows*bM wide)
  (hK:∀w h',Own h0 h' (aC bg 1 3 w ((List.range wide).filter λi=>fV bs (bM wide) row i)::L)->K w h'):ah prog 300 [ptr b,I row] h K:=by
 refine aK (ahJ ?_);unfold Tx;refine(Own.start h).box λl4 h1 o1=> ?_;refine aK (aiN ?_);unfold US;refine o1.box λb2 h2 o2=>o2.box λr3 h3 f=> ?_;have a:Own h h3 (aC bg 1 3 (.slice none 0 0) (mj wide (λi=>fV bs (bM wide) row i) 0)::ak r3 [I row] 3::ak b2 [ptr b] 50::ak l4 [.slice none 0 0] 43:: []):=Own.ef (enc:=bg) (n:=1) (T:=3) f;refine a.range (amN (b:=b) (rows:=rows) (bs:=bs) (T1:=50) (T2:=3) hr hm aa hl) (by rintro s x s' ⟨j,_,_,_,_,rfl,_⟩;rfl)
  (λs Rs=>s<=wide/\∃w,Rs=aC bg 1 3 w (mj wide (λi=>fV bs (bM wide) row i) s)::ak r3 [I row] 3::ak b2 [ptr b] 50::ak l4 [w] 43:: []) (λ_=>False) (λ_ _=>False) ⟨fE _,_,rfl⟩ ?_ ?_ ?_ (λ_ _ h=>h.elim) (λ_ _ _ h=>h.elim)
 .rintro s Rs h' ⟨_,w,rfl⟩ o';exact⟨o'.get 2 rfl,o'.get 1 rfl,hN _ o'.ext⟩
 .rintro M s x s' Rs Pr h' R ⟨j,hs,hj,hf,hno,rfl,rfl⟩ ⟨_,w,rfl⟩ o' g _ _;dsimp only[gh];unfold Tw;refine o'.begin 0 rfl λh4 a=> ?_;have a:Own h h4 (cD _ _::cw _::aC bg 1 3 w (mj wide (λi=>fV bs (bM wide) row i) s)::ak r3 [I row] 3::ak b2 [ptr b] 50::ak l4 [w] 43::([]++Pr)):=a;refine a.load 5 rfl rfl ?_;have hlen:(mj wide (λi=>fV bs (bM wide) row i) s).length<=s:=by
   unfold mj;have :=rG (λi=>fV bs (bM wide) row i) (List.range s);rw[gd]at this;exact this
  refine a.fH 2 j rfl rfl (bW rfl) (λ_=>rfl) qM rfl az aa λw' h5 d=> ?_;have hw':=d.vw 2 rfl;refine d.bu 5 (cs':=[w']) rfl rfl rfl hw'.one hw'.plain λh6 c=> ?_;refine g _ h6 ⟨aa,w',rfl⟩ ?_;rw[Jo hs hf hno];exact c
 .rintro s h' Rs hst ⟨hs,w,rfl⟩ o';rw[Jp hs hst]at o';have hw':=o'.vw 1 rfl;refine o'.load 4 rfl rfl (o'.bu 4 (cs':=[w]) rfl rfl rfl hw'.one hw'.plain λh6 c=> ?_);refine c.jV 0 rfl λh7 e=>e.load 4 rfl rfl ?_;exact hK w h7 (o.frame (e.bh [1] az))
def amP(H:mM h b rows wide bs)(hK:K (.string (qd bs)) h):ah prog 158 [ptr b] h K:=by obtain⟨s,hb,hv⟩:=H;refine aK (afm ?_);unfold Ql;have c0:hcell h ⟨b,3,none⟩=some s:=bz hb rfl;simp only[dM,dW,aO,bD,aU,dh,bE,c0];exact hv.str hK
end
def eZ(x:Bool):List Value:=[.bool x]
def Jq(x:Bool):(eZ x).length=1:=rfl
def Jr(x:Bool):∀u∈eZ x,Mh.plainCell u=true:=by intro u hu;simp[eZ]at hu;subst hu;rfl
section
variable{h0 h:af}{L:List aS}{K:KT}{g:G}{r:Nat}{d:List Int}{v:Value}{n:Nat}{f:Nat->Bool}
def amQ{n2 j i:Nat}{sd sa so:Value}{T1 T2:TypeId}(hR:g.Right)(hd:d.length=g.n)(k:∀u,u<g.n->0<=aL d u/\aL d u<=aN)(hi:i<g.aj.length)
  (h1:h[n2]? =some (.cells #[ptr r] T1 (0,0))) (h2:h[j]? =some (.cells #[sd,sa,so] T2 (0,0))) (hN:bX h r g) (hv:Vw aJ 1 h sd d)
  (hK:∀h',Ext h h'->K (.bool (tgt d g.aj[i])) h'):aX prog (.func (.func 387) #[] #[ptr n2,ptr j]) [I i].toArray h K:=by
 refine cg (l:=[I i,ptr n2,ptr j]) rfl (ai8 ?_);unfold Vm;have c0:hcell h ⟨n2,0,none⟩=some (ptr r):=bz h1 rfl;have c1:hcell h ⟨j,0,none⟩=some sd:=bz h2 rfl;refine bJ rfl c0 (qP hN hi λh3 m=> ?_);simp only[cC,cB];have he:=hR.ends _ (cu hi);generalize g.aj[i]=a at he hK;have hW:(a.w:Int)<=2147483647:=aa;have hf:aN=72057594037927936:=rfl;have q1:=k _ he.1;have q2:=k _ he.2.1;have o:=(Own.start h).more m;refine o.box λb h4 p=>p.st 0 rfl rfl rfl rfl rfl (gQ _) λh5 c=> ?_;simp only[aU];refine bJ rfl (nT c.ext c1) (c.load 0 rfl rfl ((hv.more c.ext).Im aa (c.load 0 rfl rfl ?_)));rw[jc];refine alr q2.1 q2.2 aa aa λh6 q=> ?_;have s:=c.more q;refine As aa aa λh7 x7=> ?_;have e:=s.more x7;unfold tgt at hK;simp only[bA];refine⟨λhlt=> ?_,λhge=> ?_⟩
 .refine bJ rfl (nT e.ext c1) (e.load 0 rfl rfl ((hv.more e.ext).Im aa ?_));rw[jc,cF];have :=hK h7 e.ext;rw[bT hlt,kT]at this;exact this
 .have :=hK h7 e.ext;rw[bR hge,oy]at this;exact this
def DZ(hv:Value)(n:Nat)(f:Nat->Bool)(Q:af->Prop):Prop:=∀(h:af)(K:KT)(i:Nat),i<n->Q h->(∀h',Ext h h'->K (.bool (f i)) h')->aX prog hv [I i].toArray h K
def amR{m2 h3:Nat}{hv:Value}{Q:af->Prop}{T1 T2:TypeId}(hn:n<2^40)(hF:DZ hv n f Q):
  iG prog (.func (.func 386) #[] #[ptr m2,ptr h3]) (λh=>h[m2]? =some (.cells #[I n] T1 (0,0))/\h[h3]? =some (.cells #[hv] T2 (0,0))/\Q h) (σ:=Nat) 0 (zS n f) (u0 n f):=by
 rintro yv h0 h Rs K J E ⟨l,rfl⟩ o b hQ hY hK;refine jE (l:=[dS l,ptr m2,ptr h3]) rfl (ai7 ?_);unfold Vl;obtain⟨hm,_,_⟩:=hQ _ _ _ b o;have cm:hcell h ⟨m2,0,none⟩=some (I n):=bz hm rfl;refine bJ rfl cm ?_;refine bV n (λi x h'=>x.1=I i/\∃s a,s<=i/\(∀k,s<=k->k<i->f k=false)/\J s a/\Own h0 h' a) ⟨rfl,0,Rs,cq _,λk _ h=>absurd h aa,b,o⟩ ?_;rintro i ⟨x,⟨⟩⟩ h Z hi ⟨hx,s,a,hs,hno,hj,o⟩ hZ;dsimp only at hx hZ |-;subst hx;unfold Vk;simp only[bC,bA];refine⟨λhlt=> ?_,λhge=> ?_⟩
 .have hlt:i<n:=aa;obtain⟨_,hh,hq⟩:=hQ _ _ _ hj o;have ch:hcell h ⟨h3,0,none⟩=some hv:=bz hh rfl;refine bJ rfl ch (hF _ _ i hlt hq λh1 x1=> ?_);have o1:=o.more x1;by_cases hf:f i=true
  .rw[hf,bF];refine hY s _ (i+1) a [] h1 _ ⟨i,hs,hlt,hf,hno,rfl,rfl⟩ hj o1.oK (λc h'' hj' o'=> ?_) λc h'' he o'=> ?_
   .unfold C9;rw[bP,cz,aO,bw,wI i aa];exact hZ (I (i+1:Nat),()) h'' hlt ⟨rfl,i+1,c,cq _,λk _ h=>absurd h aa,hj',o'.gi⟩
   .rw[bP,dL,bF];exact hK _ _ (.inr he) o'.gi
  .have hf:f i=false:=by simpa using hf
   unfold C9;rw[hf,aO,bw,wI i aa];refine hZ (I (i+1:Nat),()) h1 hlt ⟨rfl,s,a,aa,λk h1 h2=> ?_,hj,o1⟩;by_cases e:k=i
   .subst e;exact hf
   .exact hno k h1 aa
 .have :i=n:=aa;subst this;exact hK _ _ (.inl ⟨s,λk h1 h2=>hno k h1 h2,hj⟩) o
def amS{fv:Value}{Q:af->Prop}{l:List Bool}(o:Own h0 h (aC eZ 1 4 v l::L))(hl:l.length=n)(hI:iG prog fv Q (σ:=Nat) 0 (zS n f) (u0 n f))
  (hQ:∀h' l',Own h0 h' (aC eZ 1 4 v l'::L)->Q h') (hK:∀h',Own h0 h' (aC eZ 1 4 v (jH l f n)::L)->K v h'):ah prog 352 [v,fv,.bool true] h K:=by
 refine aK (aiu ?_);unfold UC;have p:=(o.vw 0 rfl).one;refine o.box λl3 h1 o1=>o1.box λc h2 o2=> ?_;have q:Own h0 h2 (ak c [.bool true] 4::ak l3 [v] 241::aC eZ 1 4 v (jH l f 0)::L):=by rw[acE];rw[show v.cells.toList=[v] by rw[p]]at o2;exact o2
 refine q.range hI (by rintro s x s' ⟨j,_,_,_,_,rfl,_⟩;rfl) (λs Rs=>s<=n/\Rs=ak c [.bool true] 4::ak l3 [v] 241::aC eZ 1 4 v (jH l f s)::L) (λ_=>False) (λ_ _=>False) ⟨fE _,rfl⟩ ?_ ?_ ?_ (λ_ _ h=>h.elim) (λ_ _ _ h=>h.elim)
 .rintro s k h' ⟨_,rfl⟩ o';exact hQ _ _ o'.tail.tail
 .rintro M s x s' k Pr h' R ⟨j,hij,hj,hf,hno,rfl,rfl⟩ ⟨hs,rfl⟩ o' hN _ _;dsimp only[gh];unfold UB;refine o'.begin 0 rfl λh4 b=>b.load 3 rfl rfl (b.load 2 rfl rfl ?_);refine b.setAt (a:=true) 4 rfl Jq (Jr _) (by rw[LZ,hl];exact hj) rfl λh5 m=> ?_;rw[acF hij aa hf hno]at m;exact hN _ _ ⟨aa,rfl⟩ m
 .rintro s h' k hst ⟨hs,rfl⟩ o';refine o'.load 2 rfl rfl (o'.jV 0 rfl λh3 b=> ?_);refine hK h3 ?_;have e:=acG (l:=l) (f:=f) (i:=s) (by rw[hl];exact hst) aa;rw[hl]at e;rw[<-e];exact b.tail.tail.tail
def amT{z:Int}(H:bX h r g)(hK:K (.bool (decide (0<=z)&&decide (z<g.n))) h):ah prog 351 [ptr r,I z] h K:=by
 refine aK (ait ?_);unfold UA;have a:∀{K:Value->Prop},K (.bool true)->bL true .ptr (ptr r) (.pointer none) K:=λhk=>by simpa[bL]using hk
 refine a ?_;rw[bF];simp only[dA,bA];refine⟨λh1=>dV H ?_,λh1=> ?_⟩
 .rw[bC];rw[bT h1,kT]at hK;exact hK
 .rw[bR h1,oy]at hK;exact hK
end
section
variable{h0 h:af}{L:List aS}{K:KT}{g:G}{r c n3 c3 k5 b7 n:Nat}{v:Value}{xs:List Int}{f:Nat->Bool}{k:Int}
def amU{fv:Value}{ys:List Nat}(H:Vw bg 1 h v ys)(hl:ys.length<2^40)
  (hF:∀(h':af)(K:KT)(x:Nat),x∈ys->Ext h h'->(∀h'',Ext h' h''->K (.bool (f x)) h'')->aX prog fv [I x].toArray h' K)
  (hK:∀h',Ext h h'->K (.bool (ys.any f)) h'):ah prog 122 [v,fv] h K:=by
 refine aK (Pc ?_);unfold GP;refine aK (G3 ?_);unfold CV;refine H.len ?_;refine bV ys.length (λi x h'=>x.1=I i/\Ext h h'/\(ys.take i).any f=false) ⟨rfl,.refl _ _,rfl⟩ ?_;rintro i ⟨x,⟨⟩⟩ h' Z hi ⟨hx,x1,hp⟩ hZ;dsimp only at hx hZ |-;subst hx;unfold CU;simp only[bC,bA];refine⟨λhlt=> ?_,λhge=> ?_⟩
 .have hlt:i<ys.length:=aa;refine(H.more x1).dU (e:=λx:Nat=>I x) (λ_=>rfl) hlt ?_;refine hF h' _ ys[i] (cu hlt) x1 λh2 x2=> ?_;have a:=((Own.start h).more x1).uS x2;cases hf:f ys[i]with
  |true=>rw[bF,dA,bT aa];have :=hK h2 a;rw[show ys.any f=true from yW.2 ⟨_,cu hlt,hf⟩]at this;exact this
  |false=>rw[aO,bw,wI i aa];refine hZ (I (i+1:Nat),()) h2 hlt ⟨rfl,a,?_⟩;rw[cW hlt,List.any_append,hp];simp[hf]
 .have :ys.take i=ys:=fM aa;rw[this]at hp;rw[dA,bR aa];have :=hK h' x1;rw[hp]at this;exact this
def amV{hv:Value}{Q:af->Prop}{T1 T2:TypeId}(hl:xs.length<2^40)(hF:DZ hv xs.length f Q):
  iG prog (.func (.func 350) #[] #[ptr n3,ptr k5]) (λh=>h[n3]? =some (.cells #[ptr c] T1 (0,0))/\h[k5]? =some (.cells #[hv] T2 (0,0))/\iB h c xs/\Q h) (σ:=Nat) 0 (zS xs.length f) (u0 xs.length f):=by
 rintro yv h0 h Rs K J E ⟨l,rfl⟩ o b hQ hY hK;refine jE (l:=[dS l,ptr n3,ptr k5]) rfl (ais ?_);unfold Uz;obtain⟨hm,_,⟨s,hb,j⟩,_⟩:=hQ _ _ _ b o;have cm:hcell h ⟨n3,0,none⟩=some (ptr c):=bz hm rfl;have c0:hcell h ⟨c,0,none⟩=some s:=bz hb rfl;simp only[dh,cm,dM,dW,aO,bD,aU,bE,c0];refine j.len ?_;refine bV xs.length (λi x h'=>x.1=I i/\∃s a,s<=i/\(∀k,s<=k->k<i->f k=false)/\J s a/\Own h0 h' a) ⟨rfl,0,Rs,cq _,λk _ h=>absurd h aa,b,o⟩ ?_;rintro i ⟨x,⟨⟩⟩ h Z hi ⟨hx,s,a,hs,hno,hj,o⟩ hZ;dsimp only at hx hZ |-;subst hx;unfold Uy;simp only[bC,bA];refine⟨λhlt=> ?_,λhge=> ?_⟩
 .have hlt:i<xs.length:=aa;obtain⟨_,hh,_,hq⟩:=hQ _ _ _ hj o;have ch:hcell h ⟨k5,0,none⟩=some hv:=bz hh rfl;refine bJ rfl ch (hF _ _ i hlt hq λh1 x1=> ?_);have o1:=o.more x1;by_cases hf:f i=true
  .rw[hf,bF];refine hY s _ (i+1) a [] h1 _ ⟨i,hs,hlt,hf,hno,rfl,rfl⟩ hj o1.oK (λd h'' hj' o'=> ?_) λd h'' he o'=> ?_
   .unfold C7;rw[bP,cz,aO,bw,wI i aa];exact hZ (I (i+1:Nat),()) h'' hlt ⟨rfl,i+1,d,cq _,λk _ h=>absurd h aa,hj',o'.gi⟩
   .rw[bP,dL,bF];exact hK _ _ (.inr he) o'.gi
  .have hf:f i=false:=by simpa using hf
   unfold C7;rw[hf,aO,bw,wI i aa];refine hZ (I (i+1:Nat),()) h1 hlt ⟨rfl,s,a,aa,λk h1 h2=> ?_,hj,o1⟩;by_cases e:k=i
   .subst e;exact hf
   .exact hno k h1 aa
 .have :i=xs.length:=aa;subst this;exact hK _ _ (.inl ⟨s,λk h1 h2=>hno k h1 h2,hj⟩) o
def amW{i:Nat}{T1 T2 T3:TypeId}(hR:g.Right)(hx:xs.length=g.n)(hi:i<g.aj.length)(h1:h[n3]? =some (.cells #[ptr r] T1 (0,0)))(h2:h[c3]? =some (.cells #[ptr c] T2 (0,0)))(h3:h[k5]? =some (.cells #[I k] T3 (0,0)))
  (hN:bX h r g) (hC:iB h c xs) (hK:∀h',Ext h h'->K (.bool (!decide (aL xs (aH g.aj i).f=k))) h'):aX prog (.func (.func 258) #[] #[ptr n3,ptr c3,ptr k5]) [I i].toArray h K:=by
 refine cg (l:=[I i,ptr n3,ptr c3,ptr k5]) rfl (agQ ?_);unfold SK;have d1:hcell h ⟨n3,0,none⟩=some (ptr r):=bz h1 rfl;have d2:hcell h ⟨c3,0,none⟩=some (ptr c):=bz h2 rfl;have d3:hcell h ⟨k5,0,none⟩=some (I k):=bz h3 rfl;refine bJ rfl d1 (qP hN hi λo e=> ?_);simp only[cC,cB];have he:=hR.ends _ (cu hi);have ea:aH g.aj i=g.aj[i]:=by simp[aH,hi]
 rw[ea]at hK;generalize g.aj[i]=a at he hK;have j:=(Own.start h).more e;refine j.box λb h4 m=>m.st 0 rfl rfl rfl rfl rfl (gQ _) λh5 d=> ?_;obtain⟨s,hb,hv⟩:=hC.more d.ext;have c0:hcell h5 ⟨c,0,none⟩=some s:=bz hb rfl;refine bJ rfl (nT d.ext d2) ?_;simp only[bD,aU,bE];refine bJ rfl c0 ?_;refine d.load 0 rfl rfl (hv.Im aa ?_);refine bJ rfl (nT d.ext d3) ?_;rw[jc,fe];have :=hK h5 d.ext;rw[show(aL xs a.f != k)= !decide (aL xs a.f=k) by simp[bne,BEq.beq]];exact this
def amX{T1 T2 T3 T4:TypeId}(hR:g.Right)(hx:xs.length=g.n):DZ (.func (.func 260) #[] #[ptr c3,ptr k5,ptr n3,ptr b7]) xs.length (nW g (aL xs) k)
  (λh=>h[c3]? =some (.cells #[ptr c] T1 (0,0))/\h[k5]? =some (.cells #[I k] T2 (0,0))/\h[n3]? =some (.cells #[ptr r] T3 (0,0))/\h[b7]? =some (.cells #[.func (.func 258) #[] #[ptr n3,ptr c3,ptr k5]] T4 (0,0))/\iB h c xs/\bX h r g):=by
 rintro h K i hi ⟨h1,h2,h3,h4,hC,hN⟩ hK;refine cg (l:=[I i,ptr c3,ptr k5,ptr n3,ptr b7]) rfl (agS ?_);unfold SN;have d1:hcell h ⟨c3,0,none⟩=some (ptr c):=bz h1 rfl;have d2:hcell h ⟨k5,0,none⟩=some (I k):=bz h2 rfl;have d3:hcell h ⟨n3,0,none⟩=some (ptr r):=bz h3 rfl;have d4:hcell h ⟨b7,0,none⟩=some (.func (.func 258) #[] #[ptr n3,ptr c3,ptr k5]):=bz h4 rfl;obtain⟨s,hb,hv⟩:=id hC;have c0:hcell h ⟨c,0,none⟩=some s:=bz hb rfl;refine gW (λy h'=>y.1=.bool (nW g (aL xs) k i)/\Ext h h') (λJ hJ=> ?_) ?_
 .refine bJ rfl d1 ?_;simp only[bD,aU,bE];refine bJ rfl c0 (hv.Im hi (bJ rfl d2 ?_));rw[jc,cF];by_cases e:aL xs i=k
  .rw[show(aL xs i==k)=true by simpa using e,bF];refine bJ rfl d3 (bJ rfl d4 ?_);refine VZ (Own.start h) hR hN λw h5 a=>⟨bJ rfl (nT a.ext d4) rfl,?_⟩;have hin:(if 0<=(i:Int)/\(i:Int)<g.n then g.in (i:Int).toNat else[])=g.in i:=by rw[aW aa];rfl
   rw[hin]at a;refine amU (f:=λi=> !decide (aL xs (aH g.aj i).f=k)) (a.vw 0 rfl) (E9 vf (by have :=hR.many;omega)) (λh' K' x hx' d hk=> ?_) λh' d=> ?_
   .have b:=a.uS d;exact amW hR hx (Wi hx') (b.get h3) (b.get h1) (b.get h2) (hN.more b) (hC.more b) hk
   .refine hJ _ h' ⟨?_,a.uS d⟩;unfold nW;rw[bT e,kT]
  .rw[show(aL xs i==k)=false by simpa using e,aO];refine hJ _ h ⟨?_,.refl _ _⟩;unfold nW;rw[bR e,oy]
 .rintro⟨y,⟨⟩⟩ h' ⟨hy,x⟩;dsimp only at hy |-;subst hy;unfold SM;exact hK _ x
def aqE(g:G)(xs:List Int)(k:Int):List Int:=((List.range g.n).filter (nW g (aL xs) k)).map λ(i:Nat)=>(i:Int)
def amY{h0:af}{L:List aS}(o:Own h0 h L)(hR:g.Right)(hx:xs.length=g.n)(hN:bX h r g)(hC:iB h c xs)(hK:∀w h',Own h0 h' (aC aJ 1 3 w (aqE g xs k)::L)->K w h'):ah prog 142 [ptr c,ptr r,I k] h K:=by
 refine aK (ae6 ?_);unfold PO;have p:=hR.most;refine(Own.start h).box λc3 h1 o1=>o1.box λn4 h2 o2=>o2.box λk5 h3 a=> ?_;have a:Own h h3 [ak k5 [I k] 3,ak n4 [ptr r] 47,ak c3 [ptr c] 49]:=a;refine gW (λy h'=>y.1=.bool false/\h'=h3) (λJ hJ=> ?_) ?_
 .refine a.load 2 rfl rfl ?_;simp only[dM,dW,aO];refine a.load 1 rfl rfl ?_;simp only[dM,dW,aO];refine a.load 1 rfl rfl (a.load 2 rfl rfl ?_);obtain⟨s,hb,hv⟩:=hC.more a.ext;have c0:hcell h3 ⟨c,0,none⟩=some s:=bz hb rfl;simp only[bD,aU,bE];refine bJ rfl c0 (hv.len ?_);refine dV (hN.more a.ext) ⟨a.load 2 rfl rfl rfl,bJ rfl c0 rfl,?_⟩;rw[fe,hx,iK];exact hJ _ _ ⟨rfl,rfl⟩
 .rintro⟨y,⟨⟩⟩ h' ⟨hy,rfl⟩;dsimp only at hy |-;subst hy;unfold PN;rw[aO];refine a.box λb7 h6 e=>e.bu 0 (cs':=[.func (.func 258) #[] #[ptr n4,ptr c3,ptr k5]]) rfl rfl rfl rfl rfl λh7 b=>b.load 3 rfl rfl ?_;refine aK (agR ?_);unfold SL;refine b.box λc2 h8 l=>l.box λd h9 m=> ?_;have hF:=amX (c:=c) (r:=r) (c3:=c3) (k5:=k5) (n3:=n4) (b7:=b7) (k:=k) (T1:=49) (T2:=3) (T3:=47) (T4:=105) hR hx;refine Yb m (amV (n3:=c2) (k5:=d) (c:=c) (T1:=49) (T2:=105) aa hF) (λs=>(mj xs.length (nW g (aL xs) k) (min s xs.length)).map λ(i:Nat)=>(i:Int)) rfl (λs x s'=> ?_) (λRs h' o'=> ?_) λw h' s hst o'=> ?_
  .rintro⟨j,hs,hj,hf,hno,rfl,rfl⟩;refine⟨(j:Int),rfl,?_,?_⟩
   .rw[iY (show j+1<=xs.length by omega),iY (show s<=xs.length by omega),Jo hs hf hno,fq];rfl
   .have :=rG (nW g (aL xs) k) (List.range (j+1));rw[gd]at this;rw[iY (show j+1<=xs.length by omega),gK];unfold mj;omega
  .have q:∀(i:Nat)(R:aS),(ak d [.func (.func 260) #[] #[ptr c3,ptr k5,ptr n4,ptr b7]] 105::ak c2 [ptr c] 49::ak b7 [.func (.func 258) #[] #[ptr n4,ptr c3,ptr k5]] 105::ak k5 [I k] 3::ak n4 [ptr r] 47::ak c3 [ptr c] 49:: [])[i]? =some R->R.Q h':=λi R hi=>o'.get (Rs.length+i) (by rw[eR aa];rw[show Rs.length+i-Rs.length=i by omega];exact hi);exact⟨q 1 _ rfl,q 0 _ rfl,hC.more o'.ext,q 5 _ rfl,q 3 _ rfl,q 4 _ rfl,q 2 _ rfl,hC.more o'.ext,hN.more o'.ext⟩
  .have hs:mj xs.length (nW g (aL xs) k) (min s xs.length)=(List.range g.n).filter (nW g (aL xs) k):=by
    rw[<-hx];refine Jp (Nat.min_le_right _ _) λk' h1 h2=>hst k' aa h2
   rw[hs]at o';exact hK w h' (o.frame (o'.bh [0] az))
end
section
variable{h0 h:af}{L:List aS}{K:KT}{g:G}{r:Nat}{d:List Int}{v:Value}{n:Nat}{f:Nat->Bool}
def amZ{t:Value}{bs:List Int}(o:Own h0 h L)(hR:g.Right)(H:bX h r g)(hb:Vw aJ 1 h t bs)(N:bs.length<2^40)
  (hK:∀w h',Own h0 h' (aC eZ 1 4 w (g.aj.map (jG g bs))::L)->K w h'):ah prog 261 [ptr r,t] h K:=by
 refine aK (agT ?_);unfold SP;have O:=hR.many;have P:=hR.most;simp only[dM,dW,aO];refine tE (H) ?_;refine(Own.start h).make (enc:=eZ) (n:=1) (a:=false) rfl aa aa λw h1 o1=>hb.len ?_;have e0:List.replicate g.aj.length false=g.aj.map (jG g (bs.take 0)):=by apply iW aP λi h1 h2=>by simp[jG]
 rw[e0]at o1;refine bV bs.length (λi x h'=>x.1=w/\x.2.1=I i/\Own h h' [aC eZ 1 4 w (g.aj.map (jG g (bs.take i)))]) ⟨rfl,rfl,o1⟩ ?_;clear o1 e0;rintro i ⟨w',x,⟨⟩⟩ h' Z hi ⟨hw,hx,o'⟩ hZ;dsimp only at hw hx hZ |-;subst hw hx;unfold SO;simp only[bC,bA];refine⟨λhlt=> ?_,λhge=> ?_⟩
 .have hlt:i<bs.length:=aa;have hm:∀a,jG g (bs.take (i+1)) a=(jG g (bs.take i) a||jd g bs[i] a):=λa=>by
   rw[cW hlt,acC,LY]
  refine(hb.more o'.ext).Im hlt ?_;generalize bs[i]=b at hm;refine amT (H.more o'.ext) ?_;by_cases hc:0<=b/\b<g.n
  .rw[bT hc.1,bT hc.2,kT,bF];obtain⟨b,rfl⟩:=iX hc.1;have y:b<g.n:=aa;have T:=oQ hR y;refine(o'.vw 0 rfl).len ?_;refine aK (aiw ?_);unfold UE;refine o'.box λn2 h2 o2=>o2.load 0 rfl rfl (Ib hR (H.more o2.ext) λsd sa so h3 e=> ?_);have et:g.toI (b:Int)=g.to b:=by rw[G.toI,aW aa];rfl
   rw[et]at e;replace e:=o2.frame e;refine e.box λz h4 C=>C.st (cs':=[sd,sa,so]) 0 rfl rfl rfl rfl rfl ?_ λh5 D=> ?_
   .intro u hu;simp at hu;rcases hu with rfl|rfl|rfl
    .exact(e.vw 0 rfl).plain
    .exact(e.vw 1 rfl).plain
    .exact(e.vw 2 rfl).plain
   refine aK (aiv ?_);unfold UD;refine D.box λm2 h6 E=>E.box λA h7 F=> ?_;have hlen:(g.aj.map (jG g (bs.take i))).length=g.aj.length:=aP;have hF:DZ (.func (.func 387) #[] #[ptr n2,ptr z]) (g.aj.map (jG g (bs.take i))).length (λk=>tgt (g.to b).aM (aH g.aj k)) (λh'=>h'[n2]? =some (.cells #[ptr r] 47 (0,0))/\h'[z]? =some (.cells #[sd,sa,so] 45 (0,0))/\bX h' r g/\Vw aJ 1 h' sd (g.to b).aM):=by rintro h'' Q k hk ⟨q1,q2,A,J⟩ m;have hk:k<g.aj.length:=aa;dsimp only at m;rw[show aH g.aj k=g.aj[k] by simp[aH,hk]]at m;exact amQ hR T.ls.len (λu hu=>⟨T.ls.iP hu,T.ls.jX hu⟩) hk q1 q2 A J m
   have M:=F.bh [7,0,1,2,3,4,5,6] az;refine amS M rfl (amR (T1:=3) (T2:=105) (by rw[hlen];omega) hF) (λh'' l' j=>⟨j.get 2 rfl,j.get 1 rfl,j.get 7 rfl,j.get 3 rfl,H.more j.ext,j.vw 4 rfl⟩) λh8 s=> ?_;unfold C1;rw[bw,wI i aa];refine hZ (w',(I (i+1:Nat),())) h8 hlt ⟨rfl,rfl,?_⟩;have e1:=acH (l:=g.aj) (p:=jG g (bs.take i)) (q:=λa=>jd g b a) (f:=λk=>tgt (g.to b).aM (aH g.aj k)) λk hk=>by simp[aH,hk,jd,et,y]
   rw[hlen,e1]at s;have e2:(g.aj.map λa=>jG g (bs.take i) a||jd g b a)=g.aj.map (jG g (bs.take (i+1))):=jx λa _=>(hm a).symm;rw[e2]at s;exact s.bh [0] az
  .have B:(decide (0<=b)&&decide (b<(g.n:Int)))=false:=by
    rw[Bool.and_eq_false_imp];intro h1;exact bR λh2=>hc ⟨gM h1,h2⟩
   rw[B,aO];unfold C1;rw[bw,wI i aa];refine hZ (w',(I (i+1:Nat),())) h' hlt ⟨rfl,rfl,?_⟩;have e2:g.aj.map (jG g (bs.take i))=g.aj.map (jG g (bs.take (i+1))):=jx λa _=>by
    rw[hm a];have :jd g b a=false:=by unfold jd;rw[<-Bool.and_assoc,B,oy]
    rw[this,BE]
   rw[<-e2];exact o'
 .have :i=bs.length:=aa;subst this;rw[fF]at o';exact hK w' h' (o.frame o')
def am2{b:Int}(o:Own h0 h L)(hR:g.Right)(H:bX h r g)
  (hK:∀w h',Own h0 h' (aC eZ 1 4 w (g.aj.map (jd g b))::L)->K w h'):ah prog 143 [ptr r,I b] h K:=by
 refine aK (ae7 ?_);unfold PR;refine(Own.start h).build (enc:=aJ) (n:=1) [b] rfl (bW rfl) rfl λw h1 o1=> ?_;refine amZ o1 hR (H.more o1.ext) (o1.vw 0 rfl) aP λw2 h2 i=>hK w2 h2 ?_;have e:g.aj.map (jG g [b])=g.aj.map (jd g b):=jx λa _=>LY;rw[e]at i;exact o.frame (i.bh [0] az)
end
section
variable{h0 h:af}{L:List aS}{K:KT}{g:G}{r c n3 c4 k5 y4:Nat}{xs:List Int}{f:Nat->Bool}{k:Int}
def am3{i:Nat}(hR:g.Right)(hx:xs.length=g.n)(hN:bX h r g)(hC:iB h c xs)(hi:i<g.aj.length)(hK:∀h',Ext h h'->K (.bool (oR g (aL xs) k i)) h'):ah prog 141 [ptr r,ptr c,I k,I i] h K:=by
 refine aK (ae5 ?_);unfold PM;refine qP hN hi λh3 l=> ?_;simp only[cC,cB];have he:=hR.ends _ (cu hi);have ea:aH g.aj i=g.aj[i]:=by simp[aH,hi]
 unfold oR at hK;rw[ea]at hK;generalize g.aj[i]=a at he hK;have m:=(Own.start h).more l;refine m.box λb h4 o=>o.st 0 rfl rfl rfl rfl rfl (gQ _) λh5 j=> ?_;rw[bF];simp only[aU,bE];refine j.load 0 rfl rfl (Ji (hC.more j.ext) aa ?_);rw[cF];by_cases e:aL xs a.f=k
 .rw[show(aL xs a.f==k)=true by simpa using e,bF];refine j.load 0 rfl rfl (Ji (hC.more j.ext) aa ?_);rw[cF];have :=hK h5 j.ext;rw[bT e,kT]at this;rw[show(aL xs a.t==k)=decide (aL xs a.t=k) by simp[BEq.beq]];exact this
 .rw[show(aL xs a.f==k)=false by simpa using e,aO];have :=hK h5 j.ext;rw[bR e,oy]at this;exact this
def am4{m i:Nat}(hi:i<m)(hf:f i=true):∃post,(List.range m).filter f=(List.range i).filter f++i::post:=by obtain⟨d,rfl⟩:=Nat.le.dest (show i+1<=m by omega);refine⟨((List.range d).map (i+1+ ·)).filter f,?_⟩;rw[Bg,mD,ku,mD];simp[hf]
def Ye{yv e:Value}{pre post wl:List Nat}{J:Nat->List aS->Prop}{E:List aS->Prop}{Rs Pr:List aS}{py:Nat}{T T1:TypeId}{j:KT}
  (hR:g.Right) (hw:wl=pre++(List.range g.aj.length).filter f++post)
  (hY:∀s x s' a Pr h'(R:KT),((∃hi:s<wl.length,x=[I wl[s]])/\s'=s+1)->J s a->Own h0 h' (a++Pr)->(∀b h'',J s' b->Own h0 h'' (b++Pr)->R (.bool true) h'')->
   (∀b h'',E b->Own h0 h'' (b++Pr)->R (.bool false) h'')->aX prog yv x.toArray h' R)
  (hQ:∀s a h',J s a->Own h0 h' a->h'[n3]? =some (.cells #[ptr r] T1 (0,0))/\bX h' r g)
  (hI:∀s a h' i(K:KT),i<g.aj.length->J s a->Own h0 h' (a++Pr)->(∀h'',Ext h' h''->K (.bool (f i)) h'')->aX prog e [I i].toArray h' K)
  (hp:Pr[py]? =some (ak y4 [yv] T)) (o:Own h0 h (Rs++Pr)) (p:J pre.length Rs)
  (q:∀a h',J (pre.length+((List.range g.aj.length).filter f).length) a->Own h0 h' (a++Pr)->j (.bool true) h')
  (t:∀a h',E a->Own h0 h' (a++Pr)->j (.bool false) h'):aX prog (.func (.func 139) #[] #[ptr n3,ptr y4]) [e].toArray h j:=by
 refine cg (l:=[e,ptr n3,ptr y4]) rfl (ae3 ?_);unfold PJ;have z:=hR.many;obtain⟨hb,hN⟩:=hQ _ _ _ p o.left;have hc:hcell h ⟨n3,0,none⟩=some (ptr r):=bz hb rfl;refine bJ rfl hc (tE hN ?_);refine bV g.aj.length (λi x h'=>x.1=I i/\∃a,J (pre.length+((List.range i).filter f).length) a/\Own h0 h' (a++Pr)) ⟨rfl,Rs,p,o⟩ ?_;rintro i ⟨x,⟨⟩⟩ h' Z hi ⟨hx,a,hj,o'⟩ hZ;dsimp only at hx hZ |-;subst hx;unfold PI;simp only[bC,bA];refine⟨λhlt=> ?_,λhge=> ?_⟩
 .have hlt:i<g.aj.length:=aa;refine hI _ a h' i _ hlt hj o' λh2 x2=> ?_;have o2:=o'.more x2;cases hf:f i with
  | true=>
   rw[bF];obtain⟨po,hs⟩:=am4 hlt hf;refine o2.load (a.length+py) (by rw[eR aa,show a.length+py-a.length=py by omega];exact hp) rfl ?_;have hwi:wl[pre.length+((List.range i).filter f).length]? =some i:=by rw[hw,hs,c7,eR aa,show pre.length+((List.range i).filter f).length-pre.length=((List.range i).filter f).length by omega,c7,eR aa,iE];rfl
   obtain⟨u,w⟩:=fu.1 hwi;have y:pre.length+((List.range i).filter f).length+1=pre.length+((List.range (i+1)).filter f).length:=by rw[ku,mD];simp[hf];omega
   refine hY (pre.length+((List.range i).filter f).length) _ _ a Pr h2 _ ⟨⟨u,by rw[w]⟩,rfl⟩ hj o2 (λb h'' hj' m=> ?_) λb h'' he m=> ?_
   .unfold CQ;rw[bP,cz,aO,bw,wI i aa];exact hZ (I (i+1:Nat),()) h'' hlt ⟨rfl,b,by rw[<-y];exact hj',m⟩
   .rw[bP,dL,bF];exact t _ _ he m
  |false=>rw[aO];unfold CQ;rw[bw,wI i aa];refine hZ (I (i+1:Nat),()) h2 hlt ⟨rfl,a,?_,o2⟩;rw[ku,mD];simpa[hf]using hj
 .have :i=g.aj.length:=aa;subst this;exact q _ _ hj o'
def vH(g:G)(b:Int):List Nat:=(List.range g.aj.length).filter λi=>jd g b (aH g.aj i)
def wl(g:G)(xs:List Int)(k:Int):List Nat:=(List.range g.aj.length).filter (oR g (aL xs) k)++(aqE g xs k).flatMap (vH g)
def am5{T1 T2 T3:TypeId}(hR:g.Right)(hx:xs.length=g.n):Iter prog (.func (.func 138) #[] #[ptr n3,ptr c4,ptr k5])
  (λh=>h[n3]? =some (.cells #[ptr r] T1 (0,0))/\h[c4]? =some (.cells #[ptr c] T2 (0,0))/\h[k5]? =some (.cells #[I k] T3 (0,0))/\iB h c xs/\bX h r g) (wl g xs k).length (λi hi=>[I (wl g xs k)[i]]):=by
 rintro yv h0 h Rs K J E ⟨l,rfl⟩ o F hQ hY hK;refine jE (l:=[dS l,ptr n3,ptr c4,ptr k5]) rfl (ae2 ?_);unfold PG;refine o.box λy4 h1 o1=> ?_;have o1:Own h0 h1 (Rs++ [ak y4 [dS l] 105]):=Own.oJ o1;have z:∀s a h',J s a->Own h0 h' a->h'[n3]? =some (.cells #[ptr r] T1 (0,0))/\bX h' r g:=λs a h' hj o'=>⟨(hQ _ _ _ hj o').1,(hQ _ _ _ hj o').2.2.2.2⟩;refine Ye (pre:=[]) (f:=oR g (aL xs) k) (post:=(aqE g xs k).flatMap (vH g)) (wl:=wl g xs k) (Pr:=[ak y4 [dS l] 105]) (py:=0) (T1:=T1) hR rfl hY z (λs a h' i K' hi hj o' hk=> ?_) rfl o1 F (λa h' hj o'=> ?_) λa h' he o'=> ?_
 .obtain⟨q1,q2,q,t,m⟩:=hQ _ _ _ hj o'.left;have d1:hcell h' ⟨n3,0,none⟩=some (ptr r):=bz q1 rfl;have d2:hcell h' ⟨c4,0,none⟩=some (ptr c):=bz q2 rfl;have d3:hcell h' ⟨k5,0,none⟩=some (I k):=bz q rfl;refine cg (l:=[I i,ptr n3,ptr c4,ptr k5]) rfl (ae4 ?_);unfold PK;exact bJ rfl d1 (bJ rfl d2 (bJ rfl d3 (am3 hR hx m t hi hk)))
 .rw [bP,Bool.not_true,aO];obtain⟨q1,q2,q,t,m⟩:=hQ _ _ _ hj o'.left;have d1:hcell h' ⟨n3,0,none⟩=some (ptr r):=bz q1 rfl;have d2:hcell h' ⟨c4,0,none⟩=some (ptr c):=bz q2 rfl;have d3:hcell h' ⟨k5,0,none⟩=some (I k):=bz q rfl;refine bJ rfl d2 (bJ rfl d1 (bJ rfl d3 ?_));refine amY o' hR hx m t λw h2 o2=> ?_;refine(o2.vw 0 rfl).len ?_;have o2:Own h0 h2 (a++ [ak y4 [dS l] 105,aC aJ 1 3 w (aqE g xs k)]):=by
   have :=Own.oJ o2;rwa[c7]at this
  have M:(aqE g xs k).length<2^40:=by unfold aqE;rw[gK];have :=rG (nW g (aL xs) k) (List.range g.n);have :=hR.most;rw[gd]at *;omega
  refine bV (aqE g xs k).length (λi x h'=>x.1=I i/\∃a,J (((List.range g.aj.length).filter (oR g (aL xs) k)).length+(((aqE g xs k).take i).flatMap (vH g)).length) a/\Own h0 h' (a++ [ak y4 [dS l] 105,aC aJ 1 3 w (aqE g xs k)])) ⟨rfl,a,by simpa using hj,o2⟩ ?_;clear o2 hj o' q1 q2 q t m d1 d2 d3;rintro i ⟨x,⟨⟩⟩ h3 Z hi ⟨hx',p,hj,u⟩ hZ;dsimp only at hx' hZ |-;subst hx';unfold PF;simp only[bC,bA];refine⟨λhlt=> ?_,λhge=> ?_⟩
  .have hlt:i<(aqE g xs k).length:=aa;obtain⟨q1,q2,q,t,m⟩:=hQ _ _ _ hj u.left;have d1:hcell h3 ⟨n3,0,none⟩=some (ptr r):=bz q1 rfl;have hv:Vw aJ 1 h3 w (aqE g xs k):=u.vw (p.length+1) (by rw[eR aa,show p.length+1-p.length=1 by omega];rfl);refine hv.Im hlt (bJ rfl d1 ?_);refine am2 u hR m λw2 h4 H=>H.box λt8 h5 A=> ?_;have B:=A.vw 1 rfl;refine A.bu 0 (cs':=[w2]) rfl rfl rfl B.one B.plain λh6 y=> ?_;have y:Own h0 h6 (p++ [ak y4 [dS l] 105,aC aJ 1 3 w (aqE g xs k),aC eZ 1 4 w2 (g.aj.map (jd g (aqE g xs k)[i])),ak t8 [w2] 241]):=by
    have e:p++ [ak y4 [dS l] 105,aC aJ 1 3 w (aqE g xs k),aC eZ 1 4 w2 (g.aj.map (jd g (aqE g xs k)[i])),ak t8 [w2] 241]=((p++ [ak y4 [dS l] 105,aC aJ 1 3 w (aqE g xs k)])++ [aC eZ 1 4 w2 (g.aj.map (jd g (aqE g xs k)[i]))])++ [ak t8 [w2] 241]:=aP;rw[e];exact Own.oJ (Own.oJ (Own.swap y))
   have hsplit:wl g xs k=((List.range g.aj.length).filter (oR g (aL xs) k)++((aqE g xs k).take i).flatMap (vH g))++(List.range g.aj.length).filter (λj=>jd g (aqE g xs k)[i] (aH g.aj j))++((aqE g xs k).drop (i+1)).flatMap (vH g):=by
    unfold wl;have e:=iI i (aqE g xs k);rw[iD hlt]at e
    conv=>lhs;rw[<-e]
    rw[gV,jm];simp only[c7];rfl
   refine Ye (f:=λj=>jd g (aqE g xs k)[i] (aH g.aj j)) (wl:=wl g xs k) (py:=0) (T1:=T1) hR hsplit hY z (λs b h' j K' hj' _ o' hk=> ?_) rfl y (by rw[cG];exact hj) (λb h' hj' o'=> ?_) λb h' he o'=> ?_
   .refine cg (l:=[I j,ptr t8]) rfl (ae8 ?_);unfold PS;have C:Vw eZ 1 h' w2 (g.aj.map (jd g (aqE g xs k)[i])):=o'.vw (b.length+2) (by rw[eR aa,show b.length+2-b.length=2 by omega];rfl);have D:∀{K:Value->Prop},K w2->ag h' (ptr t8) K:=λhk=>o'.load (b.length+3) (by rw[eR aa,show b.length+3-b.length=3 by omega];rfl) rfl hk;refine D (C.len ?_);rw[bC,bT (by rw[gK];omega),bF];refine D (C.dU (e:=λx:Bool=>.bool x) (λ_=>rfl) (by rw[gK];exact hj') ?_);have :=hk h' (.refl _ _);rw[qv];rw[show aH g.aj j=g.aj[j] by simp[aH,hj']]at this;exact this
   .rw[bP,cz,aO,bw,wI i aa];refine hZ (I (i+1:Nat),()) h' hlt ⟨rfl,b,?_,?_⟩
    .have e:(((aqE g xs k).take (i+1)).flatMap (vH g)).length=(((aqE g xs k).take i).flatMap (vH g)).length+((List.range g.aj.length).filter (λj=>jd g (aqE g xs k)[i] (aH g.aj j))).length:=by
      rw[cW hlt,gV,cG];congr 1;rw[jm,y9,eO];rfl
     rw[e,<-sJ];rw[cG]at hj';exact hj'
    .have e:b++ [ak y4 [dS l] 105,aC aJ 1 3 w (aqE g xs k),aC eZ 1 4 w2 (g.aj.map (jd g (aqE g xs k)[i])),ak t8 [w2] 241]=(b++ [ak y4 [dS l] 105,aC aJ 1 3 w (aqE g xs k)])++ [aC eZ 1 4 w2 (g.aj.map (jd g (aqE g xs k)[i])),ak t8 [w2] 241]:=aP;rw[e]at o';exact o'.left
   .rw[bP,dL,bF];exact hK _ _ (.inr he) o'.left
  .have :i=(aqE g xs k).length:=aa;subst this;rw[fF]at hj;refine hK _ _ (.inl ⟨_,?_,hj⟩) u.left;unfold wl;rw[cG]
 .rw[bP,dL,bF];exact hK _ _ (.inr he) o'.left
end
section
variable{h0 h:af}{L:List aS}{K:KT}{g:G}{r c b:Nat}{xs:List Int}{k:Int}{M:Nat}{bs:List UInt8}
def kO(g:G)(xs:List Int)(M k:Nat):List UInt8:=(List.range k).foldl (λbs(r:Nat)=>setRow bs (bM g.aj.length) r (wl g xs r)) (List.replicate (M*bM g.aj.length) 0)
def iT(g:G)(xs:List Int)(M:Nat):List UInt8:=kO g xs M M
def vI:∀{k:Nat},(kO g xs M k).length=M*bM g.aj.length
 |0=>by simp[kO]
 |k+1=>by have :=vI (k:=k);unfold kO at *;rw[ku,jP,kS,List.foldl_nil,Jk,this]
def Js{k:Nat}:kO g xs M (k+1)=setRow (kO g xs M k) (bM g.aj.length) k (wl g xs k):=by unfold kO;rw[ku,jP];rfl
def D0{i:Nat}(h:i∈wl g xs k):i<g.aj.length:=by
 rcases cS.1 h with h|h
 .exact jw.1 (gL.1 h).1
 .obtain⟨b,_,h⟩:=qu.1 h;exact jw.1 (gL.1 h).1
def Yf{i:Nat}(hi:i<g.aj.length):i∈wl g xs k↔tB g (aL xs) k i=true:=by
 unfold wl tB;rw[cS,uc,yW];constructor
 .rintro(h|h)
  .exact .inl (gL.1 h).2
  .obtain⟨b,hb,h⟩:=qu.1 h;obtain⟨v,hv,rfl⟩:=cP.1 hb;have hv:=gL.1 hv;refine .inr ⟨v,hv.1,?_⟩;rw[hv.2,kT];exact(gL.1 h).2
 .rintro(h|⟨v,hv,h⟩)
  .exact .inl (gL.2 ⟨jw.2 hi,h⟩)
  .rw[gb]at h;refine .inr (qu.2 ⟨(v:Int),cP.2 ⟨v,gL.2 ⟨hv,h.1⟩,rfl⟩,gL.2 ⟨jw.2 hi,h.2⟩⟩)
def Yg{i r':Nat}(hi:i<g.aj.length):∀{k:Nat},k<=M->fV (kO g xs M k) (bM g.aj.length) r' i=(decide (r'<k)&&tB g (aL xs) r' i)
 |0,_=>by show fV (List.replicate (M*bM g.aj.length) 0) _ _ _=_;rw[X8];simp
 | k+1,hk=>by
  rw[Js,Jl (rows:=M) vI aa (λj hj=>yg (D0 hj)) (yg hi),Yg hi aa];by_cases e:k=r'
  .subst e;rw[bR (show ¬k<k by omega),oy,BE,bT (show k<k+1 by omega),kT];cases hf:tB g (aL xs) k i with
   |true=>exact bT ⟨rfl,(Yf hi).2 hf⟩
   |false=>exact bR λh=>by have :=(Yf hi).1 h.2;rw[hf]at this;cases this
  .rw[bR (show ¬(k=r'/\i∈wl g xs k)from λh=>e h.1),sU];congr 1;exact pN.2 aa
def Yh(hR:g.Right)(hx:xs.length=g.n)(hN:bX h r g)(hC:iB h c xs)(hK:∀h',Ext h h'->K (.bool true) h'):ah prog 66 [ptr r,ptr c] h K:=by refine aK (adU ?_);unfold NW;have a:=hR.most;have hpos:=hR.pos;refine dV hN ?_;rw[akS,bT aa,bF];refine X6 (Own.start h) hC aa λw h1 o1=>(o1.vw 0 rfl).len ?_;refine dV (hN.more o1.ext) ?_;rw[cF,hx,iJ];exact hK h1 o1.ext
set_option maxHeartbeats 2000000 in
def am6(o0:Own h0 h L)(hR:g.Right)(hx:xs.length=g.n)(hN:bX h r g)(hC:iB h c xs)(q:jg xs+1=(M:Int))(hM1:M<=256)(v:M*bM g.aj.length<=268435456)
  (hK:∀b s h',Own h0 h' (ak b (j8 M g.aj.length s) 238::aC eA 1 5 s (iT g xs M)::L)->K (ptr b) h'):ah prog 22 [ptr r,ptr c] h K:=by
 refine aK (adh ?_);unfold MY;have C:=hR.many;refine Yh hR hx hN hC λh1 x1=> ?_;rw[bP,cz,aO];have o1:=(Own.start h).more x1;refine DW (hC.more x1) (tE (hN.more x1) ?_);rw[q];refine Yd o1 aa v aa λb s h2 o2=>o2.box λf5 h3 t=>t.bu 0 (cs':=[ptr b]) rfl rfl rfl rfl rfl λh4 f=> ?_;refine DW (hC.more f.ext) ?_;rw[q];have a:Own h h4 (kF []::ak f5 [ptr b] 50::ak b (j8 M g.aj.length s) 238::aC eA 1 5 s (kO g xs M 0):: []):=Own.Cf f;refine bV M (λi x h'=>x.2.1=I i/\Own h h' (kF x.1::ak f5 [ptr b] 50::ak b (j8 M g.aj.length s) 238::aC eA 1 5 s (kO g xs M i):: [])) ⟨rfl,a⟩ ?_;clear o1 o2 t f a;rintro i ⟨m,x,⟨⟩⟩ h5 Z hi ⟨hx',a⟩ hZ;dsimp only at hx' hZ a |-;subst hx';unfold MX;simp only[bC,bA];refine⟨λhlt=> ?_,λhge=> ?_⟩
 .have hlt:i<M:=aa;refine a.box λl h6 o=>o.bu 0 (cs':=[I i]) rfl rfl rfl rfl rfl λh7 u=>u.load 0 rfl rfl ?_;refine aK (adY ?_);unfold N0;refine u.box λn3 h8 w=>w.box λc4 h9 y=>y.box λk5 h10 p=> ?_;have p:Own h h10 (ak k5 [I i] 3::ak c4 [ptr c] 49::ak n3 [ptr r] 47::ak l [I i] 3::kF m::ak f5 [ptr b] 50::ak b (j8 M g.aj.length s) 238::aC eA 1 5 s (setRow (kO g xs M i) (bM g.aj.length) i ((wl g xs i).take 0)):: []):=p;refine p.range (am5 (r:=r) (c:=c) (n3:=n3) (c4:=c4) (k5:=k5) (k:=(i:Int)) (T1:=47) (T2:=49) (T3:=3) hR hx) (by rintro s x s' ⟨⟨_,rfl⟩,_⟩;rfl)
   (λj Rs=>j<=(wl g xs i).length/\Rs=ak k5 [I i] 3::ak c4 [ptr c] 49::ak n3 [ptr r] 47::ak l [I i] 3::kF m::ak f5 [ptr b] 50::ak b (j8 M g.aj.length s) 238::aC eA 1 5 s (setRow (kO g xs M i) (bM g.aj.length) i ((wl g xs i).take j)):: []) (λ_=>False) (λ_ _=>False) ⟨fE _,rfl⟩ ?_ ?_ ?_ (λ_ _ h=>h.elim) (λ_ _ _ h=>h.elim)
  .rintro j Rs h' ⟨_,rfl⟩ o';exact⟨o'.get 2 rfl,o'.get 1 rfl,o'.get 0 rfl,hC.more o'.ext,hN.more o'.ext⟩
  .rintro M' j x j' Rs Pr h' R ⟨⟨hj,rfl⟩,rfl⟩ ⟨_,rfl⟩ o' z _ _;dsimp only[gh];unfold MW;refine o'.begin 0 rfl λh11 d=> ?_;have d:Own h h11 (cD _ _::cw _::ak k5 [I i] 3::ak c4 [ptr c] 49::ak n3 [ptr r] 47::ak l [I i] 3::kF m::ak f5 [ptr b] 50::ak b (j8 M g.aj.length s) 238::aC eA 1 5 s (setRow (kO g xs M i) (bM g.aj.length) i ((wl g xs i).take j))::([]++Pr)):=d;refine d.load 7 rfl rfl (d.load 5 rfl rfl ?_);refine amM d 8 9 az rfl rfl hlt (D0 (cu hj)) aa (by rw[Jk,vI]) λh12 A=> ?_;refine z _ h12 ⟨aa,rfl⟩ ?_;have e:setRow (kO g xs M i) (bM g.aj.length) i ((wl g xs i).take (j+1))=qi (setRow (kO g xs M i) (bM g.aj.length) i ((wl g xs i).take j)) (bM g.aj.length) i (wl g xs i)[j]:=by
    unfold setRow;rw[cW hj,jP];rfl
   rw[e];exact A
  .rintro j h' Rs hj ⟨_,rfl⟩ o';subst hj;rw[fF,<-Js]at o';rw[bw,wI i aa];have B:=o'.xm 4 rfl;refine hZ (_,(I (i+1:Nat),())) h' hlt ⟨rfl,B.bh [4,5,6,7] az⟩
 .have :i=M:=aa;subst this;refine a.load 1 rfl rfl (a.take 0 rfl λh6 o=> ?_);exact hK b s h6 (o0.frame (o.bh [2,3] az))
def am7{v:Value}{l:List Bool}(H:Vw eZ 1 h v l)(hl:l.length<2^40)(ht:∀x∈l,x=true)(hK:K (.bool true) h):ah prog 186 [v] h K:=by refine aK (afS ?_);unfold Q4;refine H.len ?_;refine bV l.length (λi x h'=>x.1=I i/\h'=h) ⟨rfl,rfl⟩ ?_;rintro i ⟨x,⟨⟩⟩ h' Z hi ⟨hx,rfl⟩ hZ;dsimp only at hx hZ |-;subst hx;unfold Q2;simp only[bC,bA];refine⟨λhlt=> ?_,λhge=>hK⟩;have hlt:i<l.length:=aa;refine H.dU (e:=λx:Bool=>.bool x) (λ_=>rfl) hlt ?_;rw[ht _ (cu hlt),bP,cz,aO,bw,wI i aa];exact hZ (I (i+1:Nat),()) _ hlt ⟨rfl,rfl⟩
def Yi(hR:g.Right)(hx:xs.length=g.n)(hN:bX h r g)(hC:iB h c xs)(hB:mM h b M g.aj.length bs)(a:jg xs+1=(M:Int))(hK:∀h',Ext h h'->K (.bool true) h'):ah prog 103 [ptr r,ptr c,ptr b] h K:=by refine aK (aes ?_);unfold OM;refine Yh hR hx hN hC λh1 x1=> ?_;simp only[Cb,kz];obtain⟨s,hb,_⟩:=hB.more x1;refine Jn hb (DW (hC.more x1) ?_);rw[a,cF,iJ];refine DY hb (tE (hN.more x1) ?_);rw[cF,iJ];refine((Own.start h).more x1).build (enc:=eZ) (n:=1) [true,true,true,true] rfl (bW rfl) rfl λw h2 o2=> ?_;exact am7 (o2.vw 0 rfl) az az (hK h2 o2.ext)
def qW(l:List Bool)(is:List Nat):List Bool:=is.foldl (λl i=>l.set i true) l
def Jt:∀{is:List Nat}{l:List Bool},(qW l is).length=l.length
 | [],_=>rfl
 |i::is,l=>by have :=Jt (is:=is) (l:=l.set i true);rw[kV]at this;exact this
def Yj:∀{is:List Nat}{l:List Bool}{j:Nat},j<l.length->(qW l is)[j]? =some (decide (j∈is)||l.getD j false)
 | [],l,j,hj=>by simp[qW,hj]
 | i::is,l,j,hj=>by
  have :=Yj (is:=is) (l:=l.set i true) (j:=j) (by simpa using hj);show(qW (l.set i true) is)[j]? =_;rw[this];congr 1;by_cases e:i=j
  .subst e;simp[hj]
  .rw[cI,gD e,<-cI];congr 1;apply pN.2;rw[cV];exact⟨.inr,λh=>h.resolve_left λh=>e h.symm⟩
def sx(A:Nat)(f:Nat->Bool):List Bool:=(List.range A).map f
def am8{A:Nat}{f:Nat->Bool}:qW (List.replicate A false) ((List.range A).filter f)=sx A f:=by
 apply nK;intro j;by_cases hj:j<A
 .rw[Yj (by simpa using hj)];unfold sx;rw[pK,List.getElem?_range hj,vV];congr 1;have :(List.replicate A false).getD j false=false:=by
   rw[cI,Kf];split<;>rfl
  rw[this,BE];cases hf:f j with
  |true=>exact bT (gL.2 ⟨jw.2 hj,hf⟩)
  |false=>exact bR λh=>by have :=(gL.1 h).2;rw[hf]at this;cases this
 .rw[kU (by rw[Jt];simpa using hj),kU (by unfold sx;simpa using hj)]
def am9{A row:Nat}(o:Own h0 h L)(hB:mM h b M A bs)(hr:row<M)(hm:M*bM A<2^40)(hA:A<2^39)(hl:bs.length=M*bM A)
  (hK:∀w h',Own h0 h' (aC eZ 1 4 w (sx A λi=>fV bs (bM A) row i)::L)->K w h'):ah prog 192 [ptr b,I row] h K:=by
 refine aK (afY ?_);unfold Rc;rw[bC,bR aa,aO];obtain⟨s,hb,_⟩:=id hB;refine Jn hb ?_;rw[dA,bR aa,aO];refine DY hb ?_;refine(Own.start h).make (enc:=eZ) (n:=1) (a:=false) rfl aa aa λw h1 o1=> ?_;have f:=hB.more o1.ext;refine amO o1 (λh' x=>f.more x) hr hm hA hl λw2 h2 o2=> ?_;have hfl:((List.range A).filter λi=>fV bs (bM A) row i).length<=A:=by have :=rG (λi=>fV bs (bM A) row i) (List.range A);rw[gd]at this;exact this
 have hall:∀i∈(List.range A).filter λi=>fV bs (bM A) row i,i<A:=λi hi=>jw.1 (gL.1 hi).1;rw[<-am8]at hK;generalize ((List.range A).filter λi=>fV bs (bM A) row i)=fl at o2 hfl hall hK;refine(o2.vw 0 rfl).len ?_;have o2:Own h h2 (aC bg 1 3 w2 fl::aC eZ 1 4 w (qW (List.replicate A false) (fl.take 0)):: []):=o2;refine bV fl.length (λi x h'=>x.1=I i/\Own h h' (aC bg 1 3 w2 fl::aC eZ 1 4 w (qW (List.replicate A false) (fl.take i)):: [])) ⟨rfl,o2⟩ ?_;rintro i ⟨x,⟨⟩⟩ h3 Z hi ⟨hx,d⟩ hZ;dsimp only at hx hZ |-;subst hx;unfold Rb;simp only[bC,bA];refine⟨λhlt=> ?_,λhge=> ?_⟩
 .have hlt:i<fl.length:=aa;refine(d.vw 0 rfl).dU (e:=λx:Nat=>I x) (λ_=>rfl) hlt ?_;refine d.setAt (a:=true) 1 rfl Jq (Jr _) (by rw[Jt,nN];exact hall _ (cu hlt)) rfl λh5 j=> ?_;rw[bw,wI i aa];refine hZ (I (i+1:Nat),()) h5 hlt ⟨rfl,?_⟩;have e:qW (List.replicate A false) (fl.take (i+1))=(qW (List.replicate A false) (fl.take i)).set fl[i] true:=by
   unfold qW;rw[cW hlt,jP];rfl
  rw[e];exact j
 .have :fl.take i=fl:=fM aa;rw[this]at d;exact hK w h3 (o.frame (d.bh [1] az))
end
section
variable{h0 h:af}{L:List aS}{K:KT}{g:G}{r n1:Nat}{xs:List Int}
def ana{cells:Nat}(h1:1<=cells)(h2:cells<=256)(hK:∀rows,vF cells rows->K (.tuple #[I rows,I (cells/rows:Nat)]) h):ah prog 132 [I cells] h K:=by
 refine aK (aeX ?_);unfold Py;rw[bC,bR aa,aO,akS,bR aa,aO];refine bV 255 (λi x h'=>x.1=I (i+1:Nat)/\h'=h/\(i+1)*(i+1)<=cells) ⟨rfl,rfl,h1⟩ ?_;rintro i ⟨x,⟨⟩⟩ h' Z hi ⟨hx,rfl,hle⟩ hZ;dsimp only at hx hZ |-;subst hx;unfold Px;have hi':i+1<=256:=by have :=lJ (i+1) (show 1<=i+1 by omega);omega
 have a:(i+1+1)*(i+1+1)<=257*257:=nM aa aa;rw[bw,wI (i+1) aa,bw,wI (i+1) aa,iO];have em:((i+1+1:Nat):Int)*((i+1+1:Nat):Int)=(((i+1+1)*(i+1+1):Nat):Int):=by rw[uq]
 rw[em,bK aa aa,lS,bA];refine⟨λhc=> ?_,λhc=> ?_⟩
 .rw[bw,wI (i+1) aa];have hlt:i<255:=by
   by_cases e:255<=i
   .have :=nM (show 257<=i+1+1 by omega) (show 257<=i+1+1 by omega);omega
   .omega
  exact hZ (I (i+1+1:Nat),()) _ hlt ⟨rfl,rfl,aa⟩
 .rw[pX];refine⟨aa,?_⟩;have e3:(cells:Int).tdiv ((i+1:Nat):Int)=((cells/(i+1):Nat):Int):=by rw[y8 aa];exact(Int.natCast_ediv cells (i+1)).symm
  have h4:cells/(i+1)<=cells:=E8 _ _;rw[e3];have h5:=hK (i+1) ⟨aa,hle,aa⟩;generalize cells/(i+1)=q at h4 h5;rw[bK aa aa];exact h5
def Yk{T:TypeId}(hR:g.Right):Iter prog (.func (.func 247) #[] #[ptr n1]) (λh=>h[n1]? =some (.cells #[ptr r] T (0,0))/\bX h r g) g.n (λi _=>[I (g.X.getD i 0),I (g.Y.getD i 0)]):=by
 rintro yv h0 h Rs K J E ⟨l,rfl⟩ o b hQ hY hK;refine jE (l:=[dS l,ptr n1]) rfl (agI ?_);unfold Sv;have e:=hR.most;obtain⟨hb,hN⟩:=hQ _ _ _ b o;have hc:hcell h ⟨n1,0,none⟩=some (ptr r):=bz hb rfl;refine bJ rfl hc (dV hN ?_);refine bV g.n (λi x h'=>x.1=I i/\∃a,J i a/\Own h0 h' a) ⟨rfl,Rs,b,o⟩ ?_;rintro i ⟨x,⟨⟩⟩ h Z hi ⟨hx,a,hj,o⟩ hZ;dsimp only at hx hZ |-;subst hx;unfold Su;simp only[bC,bA];refine⟨λhlt=> ?_,λhge=> ?_⟩
 .have hlt:i<g.n:=aa;obtain⟨hb',d⟩:=hQ _ _ _ hj o;have hc:hcell h ⟨n1,0,none⟩=some (ptr r):=bz hb' rfl;refine bJ rfl hc (WA hR d hlt ?_);simp only[cC,cB,nS];refine hY i _ (i+1) a [] h _ ⟨⟨hlt,rfl⟩,rfl⟩ hj o.oK (λc h'' hj' o'=> ?_) λc h'' he o'=> ?_
  .rw[bP,cz,aO,bw,wI i aa];exact hZ (I (i+1:Nat),()) h'' hlt ⟨rfl,c,hj',o'.gi⟩
  .rw[bP,dL,bF];exact hK _ _ (.inr he) o'.gi
 .have :i=g.n:=aa;exact hK _ _ (.inl ⟨i,this,hj⟩) o
def yh(e:nw):Value:=.agg #[I e.lo,I e.hi,.bool e.any]
def gJ(e:nw):List Value:=[I e.lo,I e.hi,.bool e.any]
def Yl{e:nw}{x:Int}(hK:∀h',Ext h h'->K (yh (fU e x)) h'):ah prog 134 [yh e,I x] h K:=by
 refine aK (aeY ?_);unfold PA;refine(Own.start h).box λe2 h1 o1=>o1.box λt4 h2 o2=> ?_;have o2:Own h h2 [ak t4 [I 0,I 0,.bool false] 226,ak e2 (gJ e) 226]:=o2;simp only[aU,bE];refine o2.load 1 rfl rfl ?_;rw[bP];have fin:∀e':nw,fU e x=e'->aD 3 (ptr t4) (yh e') h2 λu h_3=>bq 3 h_3 (ptr t4) λres=>K res h_3:=λe' he=>by subst he;refine o2.st (l:=gJ (fU e x)) (cs':=gJ (fU e x)) 0 rfl rfl rfl rfl rfl ?_ λh3 a=>a.bZ (cs':=gJ (fU e x)) 0 rfl rfl rfl (hK h3 a.ext);intro u hu;simp[gJ]at hu;rcases hu with rfl|rfl|rfl<;>rfl
 cases ha:e.any with
 |false=>rw[dL,bF];refine cE (cs':=gJ ⟨x,x,true⟩) (by intro p hp;simp at hp;rcases hp with rfl|rfl|rfl<;>rfl) rfl rfl (fin ⟨x,x,true⟩ ?_);unfold fU;rw[ha];rfl
 | true=>
  rw[cz,aO];have b:Own h h2 [ak t4 [I 0,I 0,.bool false] 226,ak e2 (gJ e) 226]:=o2;refine b.load 1 rfl rfl ?_;rw[rU];refine b.load 1 rfl rfl ?_;rw[oI];refine cE (cs':=gJ ⟨min e.lo x,max e.hi x,true⟩) (by intro p hp;simp at hp;rcases hp with rfl|rfl|rfl<;>rfl) rfl ?_ (fin ⟨min e.lo x,max e.hi x,true⟩ ?_)
  .show[I (if x<e.lo then x else e.lo),I (if x>e.hi then x else e.hi),Value.bool true]=[I (min e.lo x),I (max e.hi x),Value.bool true];rw[show(if x<e.lo then x else e.lo)=min e.lo x by rw[Int.min_def];split<;>split<;>omega,show(if x>e.hi then x else e.hi)=max e.hi x by rw[Int.max_def];split<;>split<;>omega]
  .unfold fU;rw[ha];rfl
def ny(ea ma wa:Nat):Value:=.func (.func 249) #[] #[ptr ea,ptr ma,ptr wa]
def qX(ea ma wa:Nat)(e:nw)(many:Nat):aS:=iq [ak wa [I (e.hi-e.lo+1)] 2,ak ma [I many] 3,ak ea (gJ e) 226]
def Ym{e:nw}{many:Nat}(o:Own h0 h L)(h1: -2147483648<=e.lo)(h2:e.hi<=2147483647)(h3:e.lo<=e.hi)(hK:∀ea ma wa h',Own h0 h' (qX ea ma wa e many::L)->K (ny ea ma wa) h'):ah prog 135 [yh e,I many] h K:=by refine aK (aeZ ?_);unfold PB;refine o.box λea d o1=>o1.box λma a o2=> ?_;have o2:Own h0 a (ak ma [I many] 3::ak ea (gJ e) 226::L):=o2;simp only[aU,bE];refine o2.load 1 rfl rfl (o2.load 1 rfl rfl ?_);rw[fc,bK aa aa,bw,bK aa aa];refine o2.box λwa f b=>b.bu 0 (cs':=[I (e.hi-e.lo+1)]) rfl rfl rfl rfl rfl λh4 c=>hK ea ma wa h4 (Own.sep (l:=[_,_,_]) c)
def Yn{ea ma wa many:Nat}{e:nw}{x:Int}(o:Own h0 h L)(p:Nat)(hp:L[p]? =some (qX ea ma wa e many))(h1: -2147483648<=e.lo)(h2:e.hi<=2147483647)(h3:e.lo<=x)(h4:x<=e.hi)(hm:many<=256)(a:1<=many)
  (hK:K (I (partOf e many x)) h):aX prog (ny ea ma wa) [I x].toArray h K:=by
 refine cg (l:=[I x,ptr ea,ptr ma,ptr wa]) rfl (agK ?_);unfold Sx;obtain⟨q,_⟩:=o.get p hp;have q1:=q _ (cN);have q2:=q _ (cZ _ cN);have b:=q _ (cZ _ (cZ _ cN));have c1:hcell h ⟨wa,0,none⟩=some (I (e.hi-e.lo+1)):=bz q1 rfl;have c2:hcell h ⟨ma,0,none⟩=some (I many):=bz q2 rfl;have c3:hcell h ⟨ea,0,none⟩=some (I e.lo):=bz b rfl;simp only[aU,dh,bE,c1,c2,c3];have hb:0<=(x-e.lo)*(many:Int):=Bs aa aa;have c:(x-e.lo)*(many:Int)<=4294967296*256:=Int.mul_le_mul aa aa aa aa;have hp:=AO h3 h4 a;rw[fc,bK aa aa,iO,bK aa aa,pX];refine⟨aa,?_⟩;rw[y8 hb];unfold partOf at hp hK;rw[bK aa aa];exact hK
end
end Go.Proofs.YtacopgnplajifaaGreatDoor
