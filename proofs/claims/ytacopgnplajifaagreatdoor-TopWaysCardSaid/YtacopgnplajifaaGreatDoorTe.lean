/- Lemmas on the way to the law of this seat, joined. They have no conditions of their own. -/
import Derived.Test.YtacopgnplajifaaGreatDoorMd
import Derived.Test.YtacopgnplajifaaGreatDoorMb
import Derived.Test.YtacopgnplajifaaGreatDoorTa
import Derived.Test.YtacopgnplajifaaGreatDoorTb
import Derived.Test.YtacopgnplajifaaGreatDoorGb
import Derived.Tactics
import Derived.Tactics2
import Derived.Test.YtacopgnplajifaaGreatDoorTd
import Derived.Test.YtacopgnplajifaaGreatDoorMc
set_option linter.unusedVariables false
set_option linter.unusedSimpArgs false
set_option linter.unusedSectionVars false
set_option linter.defProp false
set_option maxRecDepth 100000

namespace Go.Proofs.YtacopgnplajifaaGreatDoor
open Go Go.Mh Tryz
def Zj:∀{m k n:Nat},m<=k->(ct k n).take m=ct m n
 |0,_,_,_=>by simp[ct]
 |m+1,0,_,h=>absurd h aa
 |m+1,k+1,n,h=>by rw[ct,ER,Zj aa,ct]
def Zk{A C:List Value}{b v:Value}{j:Nat}(hj:j=A.length):over (A++b::C) j [v]=A++v::C:=by subst hj;simp[over]
def Em{b o:Nat}{K:Value->Prop}(hK:K (.bool true)):bL true .ptr (.pointer (some ⟨b,o,none⟩)) (.pointer none) K:=hK
def W8{K:Value->Prop}(hK:K (.bool false)):bL true .ptr (.pointer none) (.pointer none) K:=hK
def aoX{n:Nat}{K:Value->Prop}(hK:K (.int .u64 ((n/256:Nat):Int))):aq .shr (.int .u64 (n:Nat)) (.int .u64 8) K:=by
 refine⟨az,?_⟩;have :((n:Nat):Int).fdiv (2^(min (8:Int).toNat IntKind.u64.bits))=((n/256:Nat):Int):=by show((n:Nat):Int).fdiv 256=_;rw[EY _ az];omega
 rw[this];exact hK
def Zl{xs:List UInt8}{i:Nat}{k:IntKind}{K:Value->Prop}(hi:i<xs.length)(hK:K (.int .u8 xs[i].toNat)):mT (.string (qd xs)) (.int k i) K:=by
 refine⟨aa,?_⟩;have e:(qd xs)[(i:Int).toNat]? =some xs[i]:=by rw[fL,getElem?_pos (qd xs) i hi];rfl
 rw[e];exact hK
section
variable{h0 h:af}{L:List aS}{K:KT}{w r a m:Nat}{sv lv:Value}{bs l xs rest:List UInt8}{zs:List Int}{k:IntKind}
abbrev wr(w:Nat)(sv:Value)(bs:List UInt8)(L:List aS):List aS:=ak w [sv] 387::aC eA 1 5 sv bs::L
def Ba(o:Own h0 h L)(hK:∀w sv h',Own h0 h' (wr w sv [] L)->K (ptr w) h'):ah prog 147 [] h K:=by refine aK (afb ?_);unfold PW;refine cE (cs':=[.slice none 0 0]) (by intro p hp;simp at hp) rfl rfl ?_;exact(Own.ef (enc:=eA) (n:=1) (T:=5) o).box λw h1 o1=>hK w _ h1 o1
def Zm(b w0 many1 t15:Value)(Z:KT)(c t21:Value)(h_3:af)(d:Value->KT):Prop:=
 aq .lss t21 (.int .i64 8) λt22=>
 aA t22
 (cJ .u8 c λt26=>
 b9 1 8 b t21 λt27=>
 aD 1 t27 t26 h_3 λu h_4=>
 aq .shr c (.int .u64 8) λt29=>
 aq .add t21 (.int .i64 1) λt30=>
 d t29 t30 h_4)
 (aI w0 λt33=>
 au 0 t33 λt34=>
 ag h_3 t34 λt35=>
 pP 1 8 b none (some many1) none λt37=>
 uY 5 1 1 [(.int .u8 0)] t35 t37 h_3 λt38 h_5=>
 aI w0 λt39=>
 au 0 t39 λt40=>
 aD 1 t40 t38 h_5 λe h_6=>
 aq .add t15 (.int .i64 1) λt41=>
 Z t41 h_6)
def Zn(cv:Value->(Value->Prop)->Prop)(t14 l2 w0 many1:Value)(K:KT)(t15:Value)(h_1:af)(Z:KT):Prop:=
 aq .lss t15 t14 λt16=>
 aA t16
 (aY 1 l2 t15 λt17=>
 ag h_1 t17 λt18=>
 aB 473 (.agg #[(.int .u8 0),(.int .u8 0),(.int .u8 0),(.int .u8 0),(.int .u8 0),(.int .u8 0),(.int .u8 0),(.int .u8 0)]) h_1 λb h_2=>
 cv t18 λt20=>
 bI (σ:=bt [9,21]) (λx hh c=>Zm b w0 many1 t15 Z x.1 x.2.1 hh (λa0 a1 hz=>c (a0,(a1,())) hz)) (t20,((.int .i64 0),())) h_2)
 (K (.tuple #[]) h_1)
def Zo(cv:Value->(Value->Prop)->Prop)(w0 many1 l2:Value)(h:af)(K:KT):Prop:=
 bL false .ptr w0 (.pointer none) λt12=>
 aA t12
 (K (.tuple #[]) h)
 (bB l2 λt14=>
 bI (σ:=bt [15]) (λx hh b=>Zn cv t14 l2 w0 many1 K x.1 hh (λa0 hz=>b (a0,()) hz)) ((.int .i64 0),()) h)
def En{cv:Value->(Value->Prop)->Prop}(u:∀z(K:Value->Prop),z∈zs->K (.int .u64 (z%18446744073709551616))->cv (.int k z) K)(hm:m<=8)(d:∀{c bs' h'},Own h0 h' (wr w c bs' L)->Vw (jL k) 1 h' lv zs)
  (hl:bs.length+8*zs.length<=2^40) (o:Own h0 h (wr w sv bs L)) (hK:∀c h',Own h0 h' (wr w c (bs++zs.flatMap (fm m)) L)->K (.tuple #[]) h'):Zo cv (ptr w) (I m) lv h K:=by
 unfold Zo;simp only[dM,dW,aO];refine(d o).len ?_;refine bV zs.length (λi x h'=>x.1=I i/\∃c,Own h0 h' (wr w c (bs++(zs.take i).flatMap (fm m)) L)) ⟨rfl,sv,by simpa using o⟩ ?_;clear o;rintro i ⟨x,⟨⟩⟩ h' Z hi ⟨hx,c,o⟩ hZ;dsimp only at hx hZ |-;subst hx;unfold Zn;rw[bC,bA];refine⟨λhlt=> ?_,λhge=> ?_⟩
 .have hlt:i<zs.length:=aa;refine(d o).dU (e:=λz=>.int k z) (λ_=>rfl) hlt ?_;refine o.box λall h1 o1=>u _ _ (cu hlt) ?_;obtain⟨n,hn⟩:∃n:Nat,zs[i]%18446744073709551616=(n:Int):=⟨_,(Fb (Int.emod_nonneg zs[i] (show(18446744073709551616:Int)≠0 by decide))).symm⟩;have hle:fm m zs[i]=ct m n:=by unfold fm;rw[hn,fL]
  have hfl:((zs.take i).flatMap (fm m)).length<=8*i:=by
   rw[List.length_flatMap];have :∀l:List Int,(l.map λz=>(fm m z).length).sum<=8*l.length:=λl=>by
    induction l with
    |nil=>simp
    |cons z l ih=>rw[dI,kY,kf,fO];omega
   refine kR (this _) ?_;rw[dO];omega
  rw[hn];refine bV 8 (λj x h'=>x.1=.int .u64 ((n/256^j:Nat):Int)/\x.2.1=I j/\Own h0 h' (ak all (row eA (ct j n++List.replicate (8-j) 0)) 473::wr w c (bs++(zs.take i).flatMap (fm m)) L)) ⟨by rw[Nat.pow_zero,Nat.div_one],rfl,by rw[show row eA (ct 0 n++List.replicate (8-0) 0)=(Value.agg #[.int .u8 0,.int .u8 0,.int .u8 0,.int .u8 0,.int .u8 0,.int .u8 0,.int .u8 0,.int .u8 0]).cells.toList by simp[tn,ct,Value.cells,List.replicate]];exact o1⟩ ?_;clear o o1;rintro j ⟨x,y,⟨⟩⟩ h2 C hj ⟨hx,hy,o2⟩ f;dsimp only at hx hy f |-;subst hx hy;unfold Zm;rw[bC,bA];refine⟨λg=> ?_,λD=> ?_⟩
  .have g:j<8:=aa;rw[fG,wrap_u8,ij];have v:8-j=(8-(j+1))+1:=aa;have e1:row eA (ct j n++List.replicate (8-j) 0)=(ct j n).map (λb=>Value.int .u8 b.toNat)++Value.int .u8 0::(List.replicate (8-(j+1)) (0:UInt8)).map (λb=>Value.int .u8 b.toNat):=by
    rw[tn,fq,v,y5];rfl
   have e2:row eA (ct (j+1) n++List.replicate (8-(j+1)) 0)=(ct j n).map (λb=>Value.int .u8 b.toNat)++Value.int .u8 (((n/256^j:Nat):Int)%256)::(List.replicate (8-(j+1)) (0:UInt8)).map (λb=>Value.int .u8 b.toNat):=by rw[tn,Zf,fq,fq,c7];have :((UInt8.ofNat (n/256^j%256)).toNat:Int)=((n/256^j:Nat):Int)%256:=aP;simp only[dI,sO,this,List.singleton_append]
   rw[e1]at o2;refine⟨aa,o2.put 0 rfl rfl (by simp[eT]) rfl λh3 p=> ?_⟩;rw[Zk (by simp[eT]),<-e2]at p;refine aoX ?_;rw[bw,wI j aa,Kg,<-zb];exact f (_,(_,())) h3 g ⟨rfl,rfl,p⟩
  .have :j=8:=aa;subst this;simp only[bD,aU,bE];refine o2.load 1 rfl rfl ?_;refine o2.aoW (l:=ct 8 n) 0 rfl aP eT hm λE q=> ?_;rw[Zj hm]at q;refine o2.app 2 rfl (λ_=>rfl) zM rfl q az (by rw[eT,cG];omega) λs h4 t=> ?_;have hv:=t.vw 2 rfl;refine t.bu 1 (cs':=[s]) rfl rfl rfl hv.one hv.plain λh5 A=> ?_;rw[bw,wI i aa];refine hZ (_,()) h5 hlt ⟨rfl,s,?_⟩;have B:=A.tail;rw[cW hlt,gV,jy,hle,<-c7];exact B
 .have :zs.take i=zs:=fM aa;rw[this]at o;exact hK _ _ o
def JE(c:∀{b bs' h'},Own h0 h' (wr w b bs' L)->Vw (jL .u8) 1 h' lv zs)(hl:bs.length+8*zs.length<=2^40)(o:Own h0 h (wr w sv bs L))(hK:∀b h',Own h0 h' (wr w b (bs++zs.flatMap (fm 1)) L)->K (.tuple #[]) h'):ah prog 149 [ptr w,lv] h K:=by refine aK (afd ?_);unfold PY;refine aK (agX ?_);exact En (cv:=cJ .u64) (m:=1) (λz K _ hk=>by rw[fG,wrap_u64];exact hk) az c hl o hK
def JF(c:∀{b bs' h'},Own h0 h' (wr w b bs' L)->Vw (jL .u32) 1 h' lv zs)(hl:bs.length+8*zs.length<=2^40)(o:Own h0 h (wr w sv bs L))(hK:∀b h',Own h0 h' (wr w b (bs++zs.flatMap (fm 4)) L)->K (.tuple #[]) h'):ah prog 151 [ptr w,lv] h K:=by refine aK (aff ?_);unfold P0;refine aK (ag5 ?_);exact En (cv:=cJ .u64) (m:=4) (λz K _ hk=>by rw[fG,wrap_u64];exact hk) az c hl o hK
def JG(c:∀{b bs' h'},Own h0 h' (wr w b bs' L)->Vw aJ 1 h' lv zs)(hl:bs.length+8*zs.length<=2^40)(o:Own h0 h (wr w sv bs L))(hK:∀b h',Own h0 h' (wr w b (bs++zs.flatMap (fm 8)) L)->K (.tuple #[]) h'):ah prog 267 [ptr w,lv] h K:=by refine aK (ag8 ?_);unfold SU;refine aK (aiB ?_);exact En (k:=.i64) (cv:=cJ .u64) (m:=8) (λz K _ hk=>by rw[fG,wrap_u64];exact hk) az c hl o hK
def aoY(c:∀{b bs' h'},Own h0 h' (wr w b bs' L)->Vw (jL .u64) 1 h' lv zs)(hz:∀z∈zs,0<=z/\z<18446744073709551616)(hl:bs.length+8*zs.length<=2^40)(o:Own h0 h (wr w sv bs L))(hK:∀b h',Own h0 h' (wr w b (bs++zs.flatMap (fm 8)) L)->K (.tuple #[]) h'):ah prog 150 [ptr w,lv] h K:=by refine aK (afe ?_);unfold PZ;refine aK (ag1 ?_);exact En (cv:=λv K=>K v) (m:=8) (λz K hm hk=>by have :=hz z hm;rw[mC this.1 this.2]at hk;exact hk) az c hl o hK
def Zp(hl:bs.length+l.length<=2^40)(o:Own h0 h (wr w sv bs L))(hK:∀b h',Own h0 h' (wr w b (bs++l) L)->K (.tuple #[]) h'):ah prog 148 [ptr w,.string (qd l)] h K:=by refine aK (afc ?_);unfold PX;refine Em ?_;simp only[bF,bD,aU,bE];refine o.load 0 rfl rfl (o.aoV 1 rfl rfl az aa λc h1 o1=> ?_);have hv:=o1.vw 1 rfl;exact o1.bu 0 (cs':=[c]) rfl rfl rfl hv.one hv.plain λh2 o2=>hK _ _ o2
def yx(o:Own h0 h (wr w sv bs L))(hK:K (.string (qd bs)) h):ah prog 153 [ptr w] h K:=by refine aK (afh ?_);unfold Qb;simp only[dM,dW,aO,bD,aU,bE];exact o.load 0 rfl rfl ((o.vw 1 rfl).str hK)
def dZ(l:List UInt8)(a:Nat):List Value:=[.string (qd l),I a,.pointer none]
def Eo(o:Own h0 h L)(hK:∀r h',Own h0 h' (ak r (dZ l 0) 397::L)->K (ptr r) h'):ah prog 160 [.string (qd l)] h K:=by refine aK (afn ?_);unfold Qm;refine cE (cs':=dZ l 0) (by intro p hp;simp at hp;subst hp;rfl) rfl rfl ?_;exact o.box λr h1 o1=>hK r h1 o1
def Zq(o:Own h0 h L)(i:Nat)(hi:L[i]? =some (ak r (dZ l a) 397))(hA:At l a (xs++rest))(hl:l.length<=2^40)(hm:m=xs.length)(hK:∀h',Own h0 h' (L.set i (ak r (dZ l (a+xs.length)) 397))->K (.string (qd xs)) h'):
  ah prog 360 [ptr r,I m] h K:=by
 subst hm;refine aK (aiH ?_);unfold UK;have h1:=hA.1;rw[cG]at h1;simp only[dM,dW,aO,bD,aU,bE];refine o.load i hi rfl (W8 ?_);rw[aO,bC,bR aa,aO];refine o.load i hi rfl ?_;show fQ (.string (qd l)) _;simp only[fQ,pz];refine o.load i hi rfl ?_;rw[fc,bK aa aa,akS,bR aa,aO];refine o.load i hi rfl (o.load i hi rfl (o.load i hi rfl ?_));rw[bw,bK aa aa];refine⟨aa,aa,by show _<=((qd l).size:Int);rw[pz];omega,?_⟩;have e:(qd l).extract (a:Int).toNat ((a:Int)+(xs.length:Int)).toNat=qd xs:=by rw[show((a:Int)+(xs.length:Int)).toNat=a+xs.length by omega,fL,Zg,hA.part]
 rw[e];refine o.load i hi rfl ?_;rw[bw,bK aa aa,show(a:Int)+(xs.length:Int)=((a+xs.length:Nat):Int) by omega];exact o.bu i (cs':=dZ l (a+xs.length)) hi rfl rfl rfl rfl λh2 o2=>hK _ o2
def Zr(cv:Value->(Value->Prop)->Prop)(t12 t10:Value)(K:KT)(n6 t13:Value)(h_2:af)(Z:Value->KT):Prop:=
 aq .lss t13 t12 λt14=>
 aA t14
 (mT t10 t13 λt19=>
 cJ .u64 t19 λt20=>
 aq .mul (.int .i64 8) t13 λt22=>
 aq .shl t20 t22 λt23=>
 aq .or n6 t23 λt24=>
 aq .add t13 (.int .i64 1) λt25=>
 Z t24 t25 h_2)
 (cv n6 λt27=>
 K t27 h_2)
def Zs(P:Program)(cv:Value->(Value->Prop)->Prop)(b many1:Value)(h:af)(K:KT):Prop:=
 ah P 360 [b,many1] h λt10 h_1=>
 fQ t10 λt12=>
 bI (σ:=bt [6,13]) (λx hh c=>Zr cv t12 t10 K x.1 x.2.1 hh (λa0 a1 hz=>c (a0,(a1,())) hz)) ((.int .u64 0),((.int .i64 0),())) h_1
def Ep{cv:Value->(Value->Prop)->Prop}(o:Own h0 h L)(i:Nat)(hi:L[i]? =some (ak r (dZ l a) 397))(hA:At l a (xs++rest))(hl:l.length<=2^40)(hm:m=xs.length)(h8:xs.length<=8)
  (hK:∀h',Own h0 h' (L.set i (ak r (dZ l (a+xs.length)) 397))->cv (.int .u64 (jM xs:Nat)) λv=>K v h'):Zs prog cv (ptr r) (I m) h K:=by
 unfold Zs;refine Zq o i hi hA hl hm λh1 o1=> ?_;simp only[fQ,pz];refine bV xs.length (λj x h'=>x.1=.int .u64 (jM (xs.take j):Nat)/\x.2.1=I j/\h'=h1) ⟨rfl,rfl,rfl⟩ ?_;rintro j ⟨x,y,⟨⟩⟩ h2 Z hj ⟨hx,hy,rfl⟩ hZ;dsimp only at hx hy hZ |-;subst hx hy;unfold Zr;rw[bC,bA];refine⟨λhlt=> ?_,λhge=> ?_⟩
 .have hlt:j<xs.length:=aa;refine Zl hlt ?_;have hb:=xs[j].toNat_lt;have hlen:(xs.take j).length=j:=by rw[dO];omega
  rw[fG,wrap_u64,mC aa aa,iO,bK aa aa,show(8:Int)*(j:Int)=((8*j:Nat):Int) by omega];refine⟨aa,rfl,?_⟩;have e:=@aoR (xs.take j) xs[j] aa;rw[hlen]at e;dsimp only;rw[e,<-cW hlt,bw,wI j aa];exact hZ (_,(_,())) _ hlt ⟨rfl,rfl,rfl⟩
 .rw[fM aa];exact hK _ o1
def Es(o:Own h0 h L)(i:Nat)(hi:L[i]? =some (ak r (dZ l a) 397))(hA:At l a (xs++rest))(hl:l.length<=2^40)(hm:xs.length=1)(hK:∀h',Own h0 h' (L.set i (ak r (dZ l (a+1)) 397))->K (.int .u8 (jM xs:Nat)) h'):ah prog 166 [ptr r] h K:=by refine aK (afv ?_);unfold Qv;refine aK (ahn ?_);refine Ep (cv:=cJ .u8) (m:=1) o i hi hA hl hm.symm aa λh' o'=> ?_;have :=@A8 xs;rw[hm]at this o';rw[fG,wrap_u8,mC aa aa];exact hK h' o'
def JH(o:Own h0 h L)(i:Nat)(hi:L[i]? =some (ak r (dZ l a) 397))(hA:At l a (xs++rest))(hl:l.length<=2^40)(hm:xs.length=4)(hK:∀h',Own h0 h' (L.set i (ak r (dZ l (a+4)) 397))->K (.int .u32 (jM xs:Nat)) h'):ah prog 271 [ptr r] h K:=by refine aK (ahc ?_);unfold SY;refine aK (aiG ?_);refine Ep (cv:=cJ .u32) (m:=4) o i hi hA hl hm.symm aa λh' o'=> ?_;have :=@A8 xs;rw[hm]at this o';rw[fG,wrap_u32,mC aa aa];exact hK h' o'
def aoZ(o:Own h0 h L)(i:Nat)(hi:L[i]? =some (ak r (dZ l a) 397))(hA:At l a (xs++rest))(hl:l.length<=2^40)(hm:xs.length=8)(hK:∀h',Own h0 h' (L.set i (ak r (dZ l (a+8)) 397))->K (.int .u64 (jM xs:Nat)) h'):ah prog 358 [ptr r] h K:=by refine aK (aiD ?_);unfold UI;refine aK (aje ?_);refine Ep (cv:=λv K=>K v) (m:=8) o i hi hA hl hm.symm aa λh' o'=> ?_;rw[hm]at o';exact hK h' o'
def JI{z:Int}(o:Own h0 h L)(i:Nat)(hi:L[i]? =some (ak r (dZ l a) 397))(hA:At l a (fm 8 z++rest))(hl:l.length<=2^40)(hz: -9223372036854775808<=z/\z<=9223372036854775807)(hK:∀h',Own h0 h' (L.set i (ak r (dZ l (a+8)) 397))->K (I z) h'):ah prog 163 [ptr r] h K:=by
 refine aK (afq ?_);unfold Qt;refine aK (ahk ?_);refine Ep (cv:=cJ .i64) (m:=8) o i hi hA hl kf.symm (by rw[kf];decide) λh' o'=> ?_;rw[kf]at o';unfold fm;rw[qZ,fG];have e:IntKind.i64.wrap (((z%18446744073709551616).toNat%256^8:Nat):Int)=z:=by have h8:(256:Nat)^8=18446744073709551616:=az;have h0:=Int.emod_nonneg z (show(18446744073709551616:Int)≠0 by decide);have h1:=Int.emod_lt_of_pos z (show(0:Int)<18446744073709551616 by decide);rw[h8,pH aa,Fb h0];have h2:(z%18446744073709551616)%18446744073709551616=z%18446744073709551616:=Int.emod_emod_of_dvd _ (Int.dvd_refl _);simp only[IntKind.wrap,IntKind.signed,IntKind.bits];simp;omega
 rw[e];exact hK h' o'
def Zt(o:Own h0 h L)(i:Nat)(hi:L[i]? =some (ak r (dZ l a) 397))(hA:At l a (xs++rest))(hl:l.length<=2^40)(hm:m=xs.length)(hK:∀h',Own h0 h' (L.set i (ak r (dZ l (a+xs.length)) 397))->K (.string (qd xs)) h'):ah prog 275 [ptr r,I m] h K:=by refine aK (ahg ?_);unfold S6;exact Zq o i hi hA hl hm hK
def ao0(o:Own h0 h L)(i:Nat)(hi:L[i]? =some (ak r (dZ l a) 397))(hK:K (I a) h):ah prog 270 [ptr r] h K:=by refine aK (ahb ?_);unfold SX;simp only[dM,dW,aO,bD,aU,bE];exact o.load i hi rfl hK
def ao1(o:Own h0 h L)(i:Nat)(hi:L[i]? =some (ak r (dZ l a) 397))(hA:At l a rest)(hl:l.length<=2^40)(hK:K (I rest.length) h):ah prog 274 [ptr r] h K:=by refine aK (ahf ?_);unfold S5;have :=hA.1;simp only[dM,dW,aO,bD,aU,bE];refine o.load i hi rfl ?_;show fQ (.string (qd l)) _;simp only[fQ,pz];refine o.load i hi rfl ?_;rw[fc,bK aa aa,show(l.length:Int)-(a:Int)=(rest.length:Nat) by omega];exact hK
def ao2(o:Own h0 h L)(i:Nat)(hi:L[i]? =some (ak r (dZ l a) 397))(hK:K .nilIface h):ah prog 273 [ptr r] h K:=by refine aK (ahe ?_);unfold S4;simp only[dM,dW,aO,bD,aU,bE];refine o.load i hi rfl ?_;simp only[dM,E2,bF];exact hK
end
def uC(z:Int):Value:=.int .u32 z
def sC(i:Nat):List Value:=((List.range i).map λ(i:Nat)=>uC (tX 4 (IntKind.u32.wrap i)))++(List.replicate (16-i) (uC 0))
def nC:List Value:=A9.map uC
def JJ:sC 16=nC:=by unfold sC nC A9;rw[rC,show 16-16=0 from rfl,wq,eO];rfl
def Zu{i:Nat}:∀u∈sC i,Mh.plainCell u=true:=by
 intro u hu;rcases cS.1 hu with h|h
 .obtain⟨_,_,rfl⟩:=cP.1 h;rfl
 .rw[(List.mem_replicate.1 h).2];rfl
section
variable{h0 h:af}{L:List aS}{K:KT}{KH:KT}{r l3 a m:Nat}{sv lv:Value}{bs l xs rest:List UInt8}{x:Int}
def ao3(hK:∀h',Ext h h'->K (.agg nC.toArray) h'):ah prog 389 [] h K:=by
 refine aK (aja ?_);unfold Vq;refine(Own.start h).box λb h1 o=> ?_;have o:Own h h1 [ak b (sC 0) 493]:=o;refine bV 16 (λi x h'=>x.1=I i/\Own h h' [ak b (sC i) 493]) ⟨rfl,o⟩ ?_;clear o;rintro i ⟨x,⟨⟩⟩ h2 Z hi ⟨hx,o⟩ hZ;dsimp only at hx hZ |-;subst hx;unfold Vp;rw[bC,bA];refine⟨λhlt=> ?_,λhge=> ?_⟩
 .have hlt:i<16:=aa;rw[fG];refine bV 4 (λj x h'=>x.1=uC (tX j (IntKind.u32.wrap i))/\x.2.1=I j/\h'=h2) ⟨rfl,rfl,rfl⟩ ?_;rintro j ⟨x,y,⟨⟩⟩ h3 g hj ⟨hx,hy,rfl⟩ c;dsimp only at hx hy c |-;subst hx hy;unfold Vo;rw[bC,bA];refine⟨λk=> ?_,λn=> ?_⟩
  .refine⟨az,rfl,rfl,rfl,?_⟩;dsimp only;rw[bw,wI j aa];exact c (uC (tX (j+1) _),(_,())) h3 aa ⟨rfl,rfl,rfl⟩
  .have :j=4:=aa;subst this;rw[ij];have f:16-i=(16-(i+1))+1:=aa;have e1:sC i=((List.range i).map λ(i:Nat)=>uC (tX 4 (IntKind.u32.wrap i)))++uC 0::List.replicate (16-(i+1)) (uC 0):=by
    unfold sC;rw[f,y5]
   have e2:sC (i+1)=((List.range i).map λ(i:Nat)=>uC (tX 4 (IntKind.u32.wrap i)))++uC (tX 4 (IntKind.u32.wrap i))::List.replicate (16-(i+1)) (uC 0):=by unfold sC;rw[ku,fq,c7];rfl
   rw[e1]at o;refine⟨aa,o.put 0 rfl rfl aP rfl λh4 d=> ?_⟩;rw[Zk aP,<-e2]at d;rw[bw,wI i aa];exact hZ (_,()) h4 hlt ⟨rfl,d⟩
 .have :i=16:=aa;subst this;rw[JJ]at o;refine o.bZ (cs':=nC) 0 rfl rfl rfl ?_;refine o.st (l:=nC) (cs':=nC) 0 rfl rfl rfl rfl rfl (by rw[<-JJ];exact Zu) λh3 e=> ?_;exact e.bZ (cs':=nC) 0 rfl rfl rfl (hK _ e.ext)
def Zv{T b:TypeId}(o:Own h0 h (ak l3 nC T::ak r [uC x] b::L))(hK:∀h',Own h0 h' (ak l3 nC T::ak r [uC (El x)] b::L)->KH undef h'):
  ag h (ptr r) λt17=>aq .shr t17 (.int .u64 4) λt18=>ag h (ptr r) λt19=>aq .and t19 (.int .u32 15) λt20=>b9 1 16 (ptr l3) t20 λt21=>ag h t21 λt22=>aq .xor t18 t22 λt23=>aD 1 (ptr r) t23 h KH:=by
 refine o.load 1 rfl rfl ⟨az,o.load 1 rfl rfl ⟨rfl,?_⟩⟩;show b9 1 16 (ptr l3) (.int .u32 (ri x 15)) _;have ha:=@aoT x;rw[ij];refine⟨aa,?_⟩;have hl:(ri x 15).toNat<A9.length:=by show _<16;omega
 have e:nC[0+(ri x 15).toNat*1]? =some (uC (A9.getD (ri x 15).toNat 0)):=by unfold nC;rw[bE,tZ,pK,cI,dD hl];rfl
 refine o.load 0 rfl e ⟨rfl,?_⟩;exact o.bu 1 (cs':=[uC (El x)]) rfl rfl rfl rfl rfl hK
def Zw{z:Int}{K:Value->Prop}(hK:K (uC (tW z))):bY .xor (uC z) K:=hK
def Et(hl:l.length<=2^40)(hK:∀h',Ext h h'->K (uC (rj l)) h'):ah prog 152 [.string (qd l)] h K:=by
 refine aK (afg ?_);unfold Qa;refine aK (ag6 ?_);unfold SQ;refine Zw (z:=0) ?_;refine aK (aix ?_);unfold UF;refine(Own.start h).box λr1 h1 o1=>ao3 λh2 x2=> ?_;refine(o1.more x2).box λl3 h3 b=>b.st (l:=nC) (cs':=nC) 0 rfl rfl rfl rfl rfl (by rw[<-JJ];exact Zu) λh4 c=> ?_;refine cg (l:=[.string (qd l),ptr r1,ptr l3]) rfl (ajb ?_);unfold Vs;simp only[fQ,pz];refine bV l.length (λi x h'=>x.1=I i/\Own h h' [ak l3 nC 493,ak r1 [uC ((l.take i).foldl JD (tW 0))] 253]) ⟨rfl,c⟩ ?_;clear o1 b c;rintro i ⟨x,⟨⟩⟩ h5 Z hi ⟨hx,o⟩ hZ;dsimp only at hx hZ |-;subst hx;unfold Vr;rw[bC,bA];refine⟨λhlt=> ?_,λhge=> ?_⟩
 .have hlt:i<l.length:=aa;refine o.load 1 rfl rfl (Zl hlt ?_);rw[fG];refine⟨rfl,o.bu 1 (cs':=[uC (Ek ((l.take i).foldl JD (tW 0)) (IntKind.u32.wrap l[i].toNat))]) rfl rfl rfl rfl rfl λh6 d=> ?_⟩;refine Zv d λh7 e=>Zv e λh8 f=> ?_;rw[bw,wI i aa];refine hZ (_,()) h8 hlt ⟨rfl,?_⟩;rw[cW hlt,jP];exact f
 .rw[fM aa]at o;exact o.load 1 rfl rfl (Zw (hK _ o.ext))
abbrev fW:=Nat×List UInt8
def fD(s:fW):List Value:=[I s.1,.string (qd s.2)]
def Eu(s:fW):∀u∈fD s,Mh.plainCell u=true:=by intro u hu;simp[fD]at hu;rcases hu with rfl|rfl<;>rfl
def ql(l:List UInt8):Nat:=(rj l).toNat
def Ew{l:List UInt8}:((ql l:Nat):Int)=rj l:=Fb Zi.1
def Ey{l:List UInt8}:ql l<4294967296:=by have :=@Zi l;unfold ql;omega
def sD:List UInt8:=[77,73,76,69,49,1]
def nD(s:fW):List UInt8:=ct 1 s.1++(ct 8 s.2.length++ct 4 (ql s.2))
def nE(ss:List fW)(i:Nat):List UInt8:=sD++ct 1 ss.length++(ss.take i).flatMap nD
def kg(ss:List fW):List UInt8:=nE ss ss.length
def rm(ss:List fW):List UInt8:=ss.flatMap (·.2)
def dX(ss:List fW):List UInt8:=kg ss++ct 4 (ql (kg ss))++rm ss
structure sE(ss:List fW):Prop where
 jY:ss.length<=16
 kind:∀s∈ss,s.1<=255
 short:∀s∈ss,s.2.length<=2^30
def ao4{s:fW}:(nD s).length=13:=by simp[nD,eT]
def Ez{α:Type}{f:α->List UInt8}{N:Nat}:∀{l:List α},(∀x∈l,(f x).length<=N)->(l.flatMap f).length<=N*l.length
 | [],_=>aP
 |x::l,h=>by have :=Ez (f:=f) (N:=N) (l:=l) λy hy=>h y (cZ _ hy);have h1:=h x cN;rw[jm,cG,fO,uv];omega
def jt{α:Type}{f:α->List UInt8}{N:Nat}(h:∀x,(f x).length=N):∀{l:List α},(l.flatMap f).length=N*l.length
 | []=>aP
 |x::l=>by rw[jm,cG,fO,jt h,h,uv];omega
def Bb{ss:List fW}{i:Nat}(hi:i<=ss.length):(nE ss i).length=7+13*i:=by unfold nE;rw[cG,cG,eT,jt (N:=13) λ_=>ao4,dO,iY hi];rfl
def sE.JK{ss:List fW}(h:sE ss){i:Nat}:((ss.take i).flatMap (·.2)).length<=2^34:=by
 have h1:=Ez (f:=λs:fW=>s.2) (N:=2^30) (l:=ss.take i) λx hx=>h.short x (lK hx);have h2:=h.jY;have h3:(ss.take i).length<=16:=by rw[dO];omega
 omega
def mN(s:fW):(fD s).length=2:=rfl
def ao5{ss:List fW}(hS:sE ss)(b:Vw fD 2 h lv ss)(hK:∀h',Ext h h'->K (.tuple #[.string (qd (dX ss)),I 0]) h'):ah prog 72 [lv] h K:=by
 have j:=hS.jY;refine aK (ad0 ?_);unfold N4;refine b.len ?_;rw[akS,bR aa,aO];refine Ba (Own.start h) λw1 s1 h1 o=>Ba o λw2 s2 h2 o=> ?_;have o:Own h h2 (wr w1 s1 [] (wr w2 s2 [] [])):=o.bh [2,3,0,1] az;refine Zp (l:=sD) az o λs1 h3 o=>(b.more o.ext).len ?_;rw[fG,wrap_u8,mC aa aa];refine o.build (enc:=jL .u8) (n:=1) [(ss.length:Int)] rfl (bW rfl) rfl λw h4 o=> ?_;have o:Own h h4 (wr w1 s1 sD (aC (jL .u8) 1 5 w [(ss.length:Int)]::wr w2 s2 [] [])):=o.bh [1,2,0,3,4] az;refine JE (zs:=[(ss.length:Int)]) (λo=>o.vw 2 rfl) (by simp[sD]) o λs1 h5 o=>(b.more o.ext).len ?_;rw[jy,ou aa,show sD++ct 1 ss.length=nE ss 0 by simp[nE]]at o;have o:Own h h5 (wr w1 s1 (nE ss 0) (wr w2 s2 [] [])):=o.bh [0,1,3,4] az;refine bV ss.length (λi x h'=>x.1=I i/\∃s1 s2,Own h h' (wr w1 s1 (nE ss i) (wr w2 s2 ((ss.take i).flatMap (·.2)) []))) ⟨rfl,s1,s2,o⟩ ?_;clear o;rintro i ⟨x,⟨⟩⟩ h6 Z hi ⟨hx,s1,s2,o⟩ hZ;dsimp only at hx hZ |-;subst hx;unfold N3;have d:=hS.JK (i:=i);have k:=Bb hi;rw[bC,bA];refine⟨λhlt=> ?_,λhge=> ?_⟩
 .have hlt:i<ss.length:=aa;have p:=hS.kind _ (cu hlt);have hsh:=hS.short _ (cu hlt);have c:ss.take (i+1)=ss.take i++ [ss[i]]:=cW hlt;have hh:nE ss (i+1)=nE ss i++ct 1 ss[i].1++ct 8 ss[i].2.length++ct 4 (ql ss[i].2):=by
   unfold nE;rw[c,gV,jy];simp[nD,c7]
  have hb:(ss.take (i+1)).flatMap (·.2)=(ss.take i).flatMap (·.2)++ss[i].2:=by rw[c,gV,jy]
  rw[hb,hh]at hZ;refine(b.more o.ext).jW mN hlt ?_;generalize ss[i]=s at *;refine o.box λx7 h7 o=>o.st (l:=fD s) (cs':=fD s) 0 rfl rfl rfl rfl rfl (Eu s) λh8 o=> ?_;simp only[aU,bE];refine o.load 0 rfl rfl ?_;rw[bC,bR aa,aO];refine o.load 0 rfl rfl ?_;rw[akS,bR aa,aO];refine o.load 0 rfl rfl ?_;rw[fG,wrap_u8,mC aa aa];refine o.build (enc:=jL .u8) (n:=1) [(s.1:Int)] rfl (bW rfl) rfl λw h9 o=> ?_;have o:Own h h9 (wr w1 s1 (nE ss i) (aC (jL .u8) 1 5 w [(s.1:Int)]::ak x7 (fD s) 157::wr w2 s2 ((ss.take i).flatMap (·.2)) [])):=o.bh [2,3,0,1,4,5] az;refine JE (zs:=[(s.1:Int)]) (λo=>o.vw 2 rfl) (by simp;omega) o λs1 h10 o=> ?_;have o:=o.erase 2;refine o.load 2 rfl rfl ?_;show fQ (.string (qd s.2)) _;simp only[fQ,pz];rw[fG,wrap_u64,mC aa aa];refine o.build (enc:=jL .u64) (n:=1) [(s.2.length:Int)] rfl (bW rfl) rfl λw h11 o=> ?_;have o:=o.front 4 [1,2,0,3] az az;refine aoY (zs:=[(s.2.length:Int)]) (λo=>o.vw 2 rfl) (by intro z hz;simp at hz;subst hz;omega) (by simp[kf];omega) o λs1 h12 o=> ?_;have o:=o.erase 2;refine o.load 2 rfl rfl (Et aa λq e=> ?_);have o:=o.more e;refine o.build (enc:=jL .u32) (n:=1) [rj s.2] rfl (bW rfl) rfl λw t o=> ?_;have o:=o.front 4 [1,2,0,3] az az;refine JF (zs:=[rj s.2]) (λo=>o.vw 2 rfl) (by simp[kf];omega) o λs1 u o=> ?_;have o:=o.erase 2;refine o.load 2 rfl rfl ?_;have o:=o.bh [3,4,0,1] az;refine Zp (l:=s.2) aa o λs2 f o=> ?_;rw[bw,wI i aa];refine hZ (_,()) f hlt ⟨rfl,s1,s2,?_⟩;have o:=o.bh [2,3,0,1] az;rw[jy,jy,jy,ou aa,ou aa,<-Ew,ou (by have :=@Ey s.2;omega)]at o;exact o
 .have g:i=ss.length:=aa;subst g;rw[fF]at o d;refine yx o (Et (by show(kg ss).length<=_;unfold kg;omega) λh7 x7=> ?_);have o:=o.more x7;refine o.build (enc:=jL .u32) (n:=1) [rj (kg ss)] rfl (bW rfl) rfl λw h8 o=> ?_;have o:=o.front 3 [1,2,0] az az;refine JF (zs:=[rj (kg ss)]) (λo=>o.vw 2 rfl) (by simp;omega) o λs1 h9 o=> ?_;rw[jy,<-Ew,ou (by have :=@Ey (kg ss);omega)]at o;refine yx o (yx (o.bh [3,4] az) (acn ?_ ?_))
  .simp only[pz,cG,eT];omega
  .rw[aoQ];exact hK _ o.ext
end
def ao6{h:af}{K:Exit->bU->List Nat->af->Prop}(hk:∀e,K .normal e [] h):compile prog 17 false (cR (f159.body.getD .skip)) (eX (cR (f159.body.getD .skip)) 0 []).1 [(2,.nilIface)] [] h K:=
 Eq.mpr (α:=compile prog 17 false (cR (f159.body.getD .skip)) (eX (cR (f159.body.getD .skip)) 0 []).1 [(2,.nilIface)] [] h K)
  (β:=K .normal [(7,.bool false),(6,.nilIface),(2,.nilIface)] [] h) bn (hk _)
def ao7{v v':Value}{h:af}{K:af->Prop}(hk:K h):js prog 159 #[v,v'] h K:=by
 refine⟨bn,λw hw=> ?_⟩;subst hw;refine callsDIn_of_wpSIn func159 rfl trivial λc₀ cs hu=> ?_;apply wpSIn_seq;generalize hQ:bodyPostS prog _ c₀ cs _=Q;apply wpSIn_region;simp[wpOpsSIn,go_sem,recoverD,hu,ntmps159,Exit.thenS];have hr:∀(tm:Array Value),tm[2]? =some Value.nilIface->tm.size=17->
   Code.wpSIn Fence.wide 0 prog (cR (f159.body.getD .skip)) Q {tmps:=tm,defers:=[]} (c₀::cs) w:=by
  intro tm h1 hs;subst hQ;refine wpSIn_of_wpIn rfl ?_;refine jT _ _ none _ [] w.heap (λex _ m h'=>ex=.normal/\m=[]/\h'=w.heap) (ao6 λe=>⟨rfl,rfl,rfl⟩) bn [] _ w _ ?_ hs rfl rfl ?_
  .intro s v hv;unfold Mh.look at hv;split at hv
   .rename_i hb;have :=gl hb;subst this;rw[h1];exact hv
   .cases hv
  .rintro ex e' m' a' w' hrl _ hd a _ _ ⟨rfl,rfl,hh⟩;have b:a'.defers=[]:=hd;refine⟨b,.returning,?_,.tuple #[],?_,_,rfl,rfl,a,hh▸hk⟩
   .cases c₀;simp only at hu;subst hu;rfl
   .have hq:gu prog e' w'.heap f159.results.toList (λl=>l=[]):=by
     rw[results159];rfl
    obtain⟨l,hl,rfl⟩:=tc hrl hq;exact pO hl w' rfl
 refine hr _ ?_ ?_
 .simp
 .simp
def ao8{h:af}{K:Exit->bU->List Nat->af->Prop}(hk:∀e,K .normal e [] h):compile prog 18 false (cR (f75.body.getD .skip)) (eX (cR (f75.body.getD .skip)) 0 []).1 [(2,.nilIface)] [] h K:=
 Eq.mpr (α:=compile prog 18 false (cR (f75.body.getD .skip)) (eX (cR (f75.body.getD .skip)) 0 []).1 [(2,.nilIface)] [] h K)
  (β:=K .normal [(7,.bool false),(6,.nilIface),(2,.nilIface)] [] h) bn (hk _)
def ao9{v v':Value}{h:af}{K:af->Prop}(hk:K h):js prog 75 #[v,v'] h K:=by
 refine⟨bn,λw hw=> ?_⟩;subst hw;refine callsDIn_of_wpSIn func75 rfl trivial λc₀ cs hu=> ?_;apply wpSIn_seq;generalize hQ:bodyPostS prog _ c₀ cs _=Q;apply wpSIn_region;simp[wpOpsSIn,go_sem,recoverD,hu,ntmps75,Exit.thenS];have hr:∀(tm:Array Value),tm[2]? =some Value.nilIface->tm.size=18->
   Code.wpSIn Fence.wide 0 prog (cR (f75.body.getD .skip)) Q {tmps:=tm,defers:=[]} (c₀::cs) w:=by
  intro tm h1 hs;subst hQ;refine wpSIn_of_wpIn rfl ?_;refine jT _ _ none _ [] w.heap (λex _ m h'=>ex=.normal/\m=[]/\h'=w.heap) (ao8 λe=>⟨rfl,rfl,rfl⟩) bn [] _ w _ ?_ hs rfl rfl ?_
  .intro s v hv;unfold Mh.look at hv;split at hv
   .rename_i hb;have :=gl hb;subst this;rw[h1];exact hv
   .cases hv
  .rintro ex e' m' a' w' hrl _ hd a _ _ ⟨rfl,rfl,hh⟩;have b:a'.defers=[]:=hd;refine⟨b,.returning,?_,.tuple #[],?_,_,rfl,rfl,a,hh▸hk⟩
   .cases c₀;simp only at hu;subst hu;rfl
   .have hq:gu prog e' w'.heap f75.results.toList (λl=>l=[]):=by
     rw[results75];rfl
    obtain⟨l,hl,rfl⟩:=tc hrl hq;exact pO hl w' rfl
 refine hr _ ?_ ?_
 .simp
 .simp
section
variable{h0 h:af}{L:List aS}{K:KT}{KH:KT}{r a m fr rd:Nat}{sv lv:Value}{bs l xs rest:List UInt8}{x:Int}{ss:List fW}
def yy{c:Int}(hK:K (.tuple #[]) h):ah prog 272 [.bool true,I c] h K:=by refine aK (ahd ?_);unfold SZ;rw[bP,cz,aO];exact hK
def kQ(s:fW):List Value:=[I s.1,.int .u64 (s.2.length:Nat),uC (rj s.2)]
def EA(s:fW):∀u∈kQ s,Mh.plainCell u=true:=by intro u hu;simp[kQ]at hu;rcases hu with rfl|rfl|rfl<;>rfl
def JL(s:fW):(kQ s).length=3:=rfl
def sF(ss:List fW):List UInt8:=ct 4 (ql (kg ss))++rm ss
def JM{i:Nat}(hi:i<=ss.length):At (dX ss) (7+13*i) ((ss.drop i).flatMap nD++sF ss):=by
 have e:dX ss=nE ss i++((ss.drop i).flatMap nD++sF ss):=by
  unfold dX sF kg nE;have :ss.flatMap nD=(ss.take i).flatMap nD++(ss.drop i).flatMap nD:=by rw[<-gV,iI]
  rw[fF,this];simp[c7]
 have :=At.start (l:=dX ss);rw[e]at this |-;have h2:=this.next;rw[Bb hi,bE]at h2;exact h2
def Zx(hS:sE ss):(dX ss).length<=2^40:=by have h1:=hS.JK (i:=ss.length);rw[fF]at h1;have h2:=Bb (cq ss.length);have :=hS.jY;unfold dX kg rm;rw[cG,cG,eT];omega
def apa{r1:Nat}(hS:sE ss):Gg prog (.func (.func 357) #[] #[ptr r1]) (σ:=Nat) (λ_ _=>True)
  [ak r1 [ptr fr] 259,ak fr [ptr rd,.string (qd (dX ss))] 263,ak rd (dZ (dX ss) 0) 397]
  [ak r1 [ptr fr] 259,ak fr [ptr rd,.string (qd (dX ss))] 263,ak rd (dZ (dX ss) (7+13*ss.length)) 397] 0
  (λi x i'=>∃hi:i<ss.length,x=[.agg (kQ ss[i]).toArray]/\i'=i+1) (λi=>i=ss.length):=by
 rintro yv h0 h Rs K J E ⟨l,rfl⟩ o g hQ hY hK hE;have j:=hS.jY;have hlen:=Zx hS;refine jE (l:=[dS l,ptr r1]) rfl (aiC ?_);unfold UH;have o:Own h0 h (ak r1 [ptr fr] 259::ak fr [ptr rd,.string (qd (dX ss))] 263::ak rd (dZ (dX ss) 0) 397::Rs):=Own.comm o;have a0:At (dX ss) 0 (sD++(ct 1 ss.length++(ss.flatMap nD++sF ss))):=by
  have e:dX ss=sD++(ct 1 ss.length++(ss.flatMap nD++sF ss)):=by unfold dX sF kg nE;rw[fF];simp[c7]
  rw[e];exact At.start
 refine o.load 0 rfl rfl ?_;show aI (ptr fr) _;simp only[bD,aU,bE];refine o.load 1 rfl rfl (Zt (xs:=sD) o 2 rfl a0 hlen rfl λh1 o=> ?_);have a1:=a0.next;rw[acm,bT (show qd sD=(⟨#[77,73,76,69,49,1]⟩:ByteArray)from rfl)];refine yy (o.load 0 rfl rfl ?_);show aI (ptr fr) _;simp only[bD,aU,bE];refine o.load 1 rfl rfl (Es (xs:=ct 1 ss.length) o 2 rfl a1 hlen eT λh2 o=> ?_);rw[qZ,fG,pH aa,bK aa aa,lS,bT aa];refine yy ?_;have ha:At (dX ss) (7+13*0) ((ss.drop 0).flatMap nD++sF ss):=JM (fE _);have o:Own h0 h2 (Rs++ [ak r1 [ptr fr] 259,ak fr [ptr rd,.string (qd (dX ss))] 263,ak rd (dZ (dX ss) (7+13*0)) 397]):=Own.comm (L:=[_,_,_]) o;refine bV ss.length (λi x h'=>x.1=I i/\∃b,J i b/\Own h0 h' (b++ [ak r1 [ptr fr] 259,ak fr [ptr rd,.string (qd (dX ss))] 263,ak rd (dZ (dX ss) (7+13*i)) 397])) ⟨rfl,Rs,g,o⟩ ?_;clear o;rintro i ⟨x,⟨⟩⟩ h3 Z hi ⟨hx,b,hj,o⟩ hZ;dsimp only at hx hZ |-;subst hx;unfold UG;rw[bC,bA];refine⟨λhlt=> ?_,λhge=> ?_⟩
 .have hlt:i<ss.length:=aa;have k:=hS.kind _ (cu hlt);have hsh:=hS.short _ (cu hlt);have b0:=JM (ss:=ss) hi;rw[iD hlt,jm,c7]at b0;have b0:At (dX ss) (7+13*i) (ct 1 ss[i].1++(ct 8 ss[i].2.length++(ct 4 (ql ss[i].2)++((ss.drop (i+1)).flatMap nD++sF ss)))):=by
   unfold nD at b0 |-;simpa only[c7]using b0
  have b1:=b0.next;have b2:=b1.next;rw[eT]at b1 b2;rw[eT]at b2;have o:Own h0 h3 (ak r1 [ptr fr] 259::ak fr [ptr rd,.string (qd (dX ss))] 263::ak rd (dZ (dX ss) (7+13*i)) 397::b):=Own.comm o;have ld:∀{h':af}{c:List Value}{K':Value->Prop},Own h0 h' (ak r1 [ptr fr] 259::ak fr [ptr rd,.string (qd (dX ss))] 263::ak rd c 397::b)->K' (ptr fr)->ag h' (ptr r1) K':=λo hk=>o.load 0 rfl rfl hk;have d:∀{h':af}{c:List Value}{K':Value->Prop},Own h0 h' (ak r1 [ptr fr] 259::ak fr [ptr rd,.string (qd (dX ss))] 263::ak rd c 397::b)->K' (ptr rd)->ag h' (ptr fr) K':=λo hk=>o.load 1 rfl rfl hk;refine ld o ?_;show aI (ptr fr) _;simp only[bD,aU,bE];refine d o (ld o ?_);show aI (ptr fr) _;simp only[bD,aU,bE];refine d o (ld o ?_);show aI (ptr fr) _;simp only[bD,aU,bE];refine d o (Es (xs:=ct 1 ss[i].1) o 2 rfl b0 hlen eT λh4 o=>⟨ld o rfl,d o rfl,ld o rfl,d o rfl,?_⟩);rw[qZ,fG,pH aa,bK aa aa];refine aoZ (xs:=ct 8 ss[i].2.length) o 2 rfl b1 hlen eT λh5 o=>⟨ld o rfl,d o rfl,?_⟩;refine JH (xs:=ct 4 (ql ss[i].2)) o 2 rfl b2 hlen eT λh6 o=> ?_;have hc:=@Ey ss[i].2;rw[qZ,qZ,pH aa,pH aa,Ew];refine cE (cs':=kQ ss[i]) (by intro p hp;simp at hp;rcases hp with rfl|rfl|rfl<;>rfl) rfl rfl ?_;have o:Own h0 h6 (b++ [ak r1 [ptr fr] 259,ak fr [ptr rd,.string (qd (dX ss))] 263,ak rd (dZ (dX ss) (7+13*(i+1))) 397]):=Own.comm (L:=[_,_,_]) o;refine hY i _ (i+1) b _ h6 _ ⟨hlt,rfl,rfl⟩ hj o (λf h'' hj' o'=> ?_) λf h'' he o'=> ?_
  .rw[bP,cz,aO,bw,wI i aa];exact hZ (_,()) h'' hlt ⟨rfl,f,hj',o'⟩
  .rw[bP,dL,bF];exact hE _ _ he o'.left
 .have :i=ss.length:=aa;subst this;exact hK _ _ _ rfl hj o
end
section
variable{h0 h:af}{L:List aS}{K:KT}{KH:KT}{r a m fr rd:Nat}{sv lv:Value}{bs l xs rest:List UInt8}{x:Int}{ss:List fW}
def JN{K:Value->Prop}(hk:K (.bool true)):bL false .iface .nilIface .nilIface K:=hk
def apb{n:Nat}{K:Value->Prop}(hn:n<18446744073709551616)(hk:K (.int .u64 (n:Nat))):cJ .u64 (I n) K:=by rw[fG,wrap_u64,mC aa aa];exact hk
def apc(hS:sE ss)(o:Own h0 h [ak fr [ptr rd,.string (qd (dX ss))] 263,ak rd (dZ (dX ss) 0) 397])
  (hK:∀w h',Own h0 h' [aC fD 2 157 w ss]->K w h'):ah prog 161 [ptr fr] h K:=by
 have D:=hS.jY;have hlen:=Zx hS;refine aK (afo ?_);unfold Qq;refine o.box λc h1 o=>aK (aha ?_);unfold aqX;refine o.box λr1 h2 o=> ?_;have o:=Own.ef (enc:=kQ) (n:=3) (T:=403) o;have o:Own h0 h2 ([aC kQ 3 403 (.slice none 0 0) ([]:List fW),ak c [.slice none 0 0] 398]++ [ak r1 [ptr fr] 259,ak fr [ptr rd,.string (qd (dX ss))] 263,ak rd (dZ (dX ss) 0) 397]):=o.bh [0,2,1,3,4] az;refine o.LD (apa hS) (by rintro i x i' ⟨_,rfl,_⟩;rfl) (λi Rs=>∃w,Rs=[aC kQ 3 403 w (ss.take i),ak c [w] 398]) (λ_=>False) (λ_ _=>False) ⟨_,rfl⟩ (λ_ _ _ _ _=>trivial) ?_ ?_ (λ_ _ h=>h.elim) (λ_ _ _ h=>h.elim)
 .rintro M i _ _ _ Pr h3 R ⟨hlt,rfl,rfl⟩ ⟨w,rfl⟩ o' t _ _;dsimp only[gh];unfold Qn;refine o'.box λE h4 v=>v.st (l:=kQ ss[i]) (cs':=kQ ss[i]) 0 rfl rfl rfl rfl rfl (EA _) λh5 z=>z.begin 1 rfl λh6 f=> ?_;refine f.load 4 rfl rfl (f.bZ (cs':=kQ ss[i]) 0 rfl rfl rfl ?_);refine f.fH 3 ss[i] rfl rfl (bW rfl) JL EA rfl az (by rw[dO];omega) λw' h7 d=> ?_;have hv:=d.vw 3 rfl;refine d.bu 4 (cs':=[w']) rfl rfl rfl hv.one hv.plain λh8 b=> ?_;rw[<-cW hlt]at b;exact t [_,_] h8 ⟨w',rfl⟩ b.tail
 rintro i h3 _ rfl ⟨w,rfl⟩ o;rw[fF]at o;have o:Own h0 h3 [cw h2.size,aC kQ 3 403 w ss,ak c [w] 398,ak r1 [ptr fr] 259,ak fr [ptr rd,.string (qd (dX ss))] 263,ak rd (dZ (dX ss) (7+13*ss.length)) 397]:=o;have a0:=JM (ss:=ss) (cq _);rw[uu,y9,sN]at a0;unfold sF at a0;have a1:=a0.next;rw[eT]at a1;simp only[bD,aU,bE];refine o.load 4 rfl rfl (ao0 o 5 rfl (o.load 4 rfl rfl (JH (xs:=ct 4 (ql (kg ss))) o 5 rfl a0 hlen eT λh4 o=> ?_)));rw[qZ,pH (by have :=@Ey (kg ss);omega),Ew];refine o.load 4 rfl rfl (ao2 o 5 rfl (JN ?_));rw[bF];refine o.load 4 rfl rfl ⟨az,aa,by show((7+13*ss.length:Nat):Int)<=(dX ss).length;have :=a0.1;omega,?_⟩;have e:(qd (dX ss)).extract ((0:Nat):Int).toNat ((7+13*ss.length:Nat):Int).toNat=qd (kg ss):=by
  have hh:=Bb (ss:=ss) (cq _);have :dX ss=kg ss++(ct 4 (ql (kg ss))++rm ss):=by unfold dX;rw[c7]
  rw[fL,fL,Zg,this,<-hh];show qd ((List.take (kg ss).length _).drop 0)=_;rw[ox,List.take_left]
 rw[e];have hh:=Bb (ss:=ss) (cq _);refine Et (by show(kg ss).length<=_;unfold kg;omega) λh5 q=> ?_;have o:=o.more q;refine cF.2 ?_;rw[iJ];refine yy ?_;unfold GW;simp only[bD,aU,bE];have F:(rm ss).length<=2^34:=by have :=hS.JK (i:=ss.length);rw[fF]at this;exact this
 refine o.load 4 rfl rfl (ao1 o 5 rfl a1 hlen (apb aa (o.load 2 rfl rfl ((o.vw 1 rfl).len ?_))));refine bV ss.length (λi x h'=>x.1=.int .u64 (((ss.drop i).flatMap (·.2)).length:Nat)/\x.2.1=I i/\Own h0 h' [cw h2.size,aC kQ 3 403 w ss,ak c [w] 398,ak r1 [ptr fr] 259,ak fr [ptr rd,.string (qd (dX ss))] 263,ak rd (dZ (dX ss) (7+13*ss.length+4)) 397]) ⟨rfl,rfl,o⟩ ?_;clear o q;rintro i ⟨x,y,⟨⟩⟩ h6 Z hi ⟨hx,hy,o⟩ hZ;dsimp only at hx hy hZ |-;subst hx hy;unfold Qp;rw[bC,bA];refine⟨λhlt=> ?_,λhge=> ?_⟩
 .have hlt:i<ss.length:=aa;refine(o.vw 1 rfl).jW JL hlt ?_;refine o.box λG h7 d=>d.st (l:=kQ ss[i]) (cs':=kQ ss[i]) 0 rfl rfl rfl rfl rfl (EA _) λh8 b=> ?_;simp only[aU,bE];have hd:((ss.drop i).flatMap (·.2)).length=ss[i].2.length+((ss.drop (i+1)).flatMap (·.2)).length:=by
   rw[iD hlt,jm,cG]
  have hd2:((ss.drop i).flatMap (·.2)).length<=(rm ss).length:=by
   have :rm ss=(ss.take i).flatMap (·.2)++(ss.drop i).flatMap (·.2):=by unfold rm;rw[<-gV,iI]
   rw[this,cG];omega
  refine b.load 0 rfl rfl ?_;rw[lS,bT aa];refine yy (b.load 0 rfl rfl ?_);rw[fc,wrap_u64,mC aa aa,bw,wI i aa,show(((ss.drop i).flatMap (·.2)).length:Int)-(ss[i].2.length:Int)=(((ss.drop (i+1)).flatMap (·.2)).length:Nat) by omega];exact hZ (_,(_,())) h8 hlt ⟨rfl,rfl,b.tail⟩
 have g:i=ss.length:=aa;subst g;rw[uu,cF];refine yy (o.load 2 rfl rfl ((o.vw 1 rfl).len ?_));have o:=Own.ef (enc:=fD) (n:=2) (T:=157) o;have pos:∀i,i<=ss.length->At (dX ss) (7+13*ss.length+4+((ss.take i).flatMap (·.2)).length) ((ss.drop i).flatMap (·.2)):=λi hi=>by
  have :rm ss=(ss.take i).flatMap (·.2)++(ss.drop i).flatMap (·.2):=by unfold rm;rw[<-gV,iI]
  rw[this]at a1;exact a1.next
 refine bV ss.length (λi x h'=>x.2.1=I i/\Own h0 h' [aC fD 2 157 x.1 (ss.take i),cw h2.size,aC kQ 3 403 w ss,ak c [w] 398,ak r1 [ptr fr] 259,ak fr [ptr rd,.string (qd (dX ss))] 263,ak rd (dZ (dX ss) (7+13*ss.length+4+((ss.take i).flatMap (·.2)).length)) 397]) ⟨rfl,o⟩ ?_;clear o;rintro i ⟨lv,y,⟨⟩⟩ h7 H hi ⟨hy,o⟩ s;dsimp only at hy s |- o;subst hy;unfold Qo;rw[bC,bA];refine⟨λhlt=> ?_,λhge=> ?_⟩
 .have hlt:i<ss.length:=aa;have hsh:=hS.short _ (cu hlt);have hp:=pos i hi;rw[iD hlt,jm]at hp;have k:ss.take (i+1)=ss.take i++ [ss[i]]:=cW hlt;have A:((ss.take (i+1)).flatMap (·.2)).length=((ss.take i).flatMap (·.2)).length+ss[i].2.length:=by rw[k,gV,cG,jy]
  refine(o.vw 2 rfl).jW JL hlt ?_;refine o.box λJ h8 o=>o.st (l:=kQ ss[i]) (cs':=kQ ss[i]) 0 rfl rfl rfl rfl rfl (EA _) λh9 o=> ?_;simp only[aU,bD,bE];refine o.load 0 rfl rfl (o.load 6 rfl rfl (o.load 0 rfl rfl ?_));rw[fG,bK aa aa];refine Zt (xs:=ss[i].2) o 7 rfl hp hlen rfl λh10 o=>⟨o.load 0 rfl rfl rfl,?_⟩;refine cE (cs':=fD ss[i]) (by intro p hp;simp at hp;rcases hp with rfl|rfl<;>rfl) rfl rfl ?_;refine o.fH 1 ss[i] rfl rfl (bW rfl) mN Eu rfl az (by rw[dO];omega) λN h11 o=> ?_;have hv:=o.vw 1 rfl;rw[<-k]at hv;have B:(ss.take (i+1)).length=i+1:=by rw[dO];omega
  refine hv.len ?_;rw[B,fc,bK aa aa,show((i+1:Nat):Int)-1=(i:Nat) by omega];refine hv.tg mN (j:=1) (i:=i) (u:=.string (qd ss[i].2)) aa az (by rw[List.getElem_take];rfl) (o.load 0 rfl rfl (Et aa λh12 C=> ?_));have o:=o.more C;refine⟨o.load 0 rfl rfl rfl,cF.2 ?_⟩;rw[iJ];refine yy ?_;rw[bw,wI i aa];refine s (_,(_,())) h12 hlt ⟨rfl,?_⟩;dsimp only;rw[A,k,<-sJ];exact o.tail
 .have g:i=ss.length:=aa;subst g;rw[fF]at o;exact o.jV 1 rfl λh8 b=>hK lv h8 (b.bh [0] az)
def apd(hS:sE ss)(hK:∀w h',Own h h' [aC fD 2 157 w ss]->K (.tuple #[w,I 0]) h'):ah prog 74 [.string (qd (dX ss))] h K:=by refine aK (ad2 ?_);unfold N6;refine(Own.start h).box λl2 h1 o=>o.box λe3 h2 o=> ?_;refine Eo (Own.start h2) λrd h3 b=> ?_;refine cE (cs':=[ptr rd,.string (qd (dX ss))]) (by intro p hp;simp at hp;rcases hp with rfl|rfl<;>rfl) rfl rfl ?_;refine b.box λfr h4 c=>apc hS c λw h5 d=> ?_;have o:=o.frame d;have hv:=o.vw 0 rfl;refine o.bu 2 (cs':=[w]) rfl rfl rfl hv.one hv.plain λh6 o=>o.bu 1 (cs':=[I 0]) rfl rfl rfl rfl rfl λh7 o=> ?_;exact ao7 (o.load 2 rfl rfl (o.load 1 rfl rfl (hK w h7 (o.bh [0] az))))
end
section
variable{h0 h:af}{L:List aS}{K:KT}{KH:KT}{g:G}{x r t c b w:Nat}{sv lv v tv cv fv:Value}{ms:List Nat}{xs:List Int}{ds:List (List Int)}
def ape{b n off:Nat}{cs:List Value}{T:TypeId}{K:Value->Prop}(hb:h[b]? =some (.cells cs.toArray T (0,0)))(hn:off+n<=cs.length)(hK:K (.agg ((cs.drop off).take n).toArray)):bq n h (.pointer (some ⟨b,off,none⟩)) K:=by have :iL h b off n=some ((cs.drop off).take n):=tf (i:=0) hb n off hn;simp only[Ca,this];exact hK
def apf(o:Own h0 h L)(hR:g.Right)(H:bX h r g)(hK:∀vx vy va h',Own h0 h' (xR vx g.X::xR vy g.Y::aR va g.aj::L)->K (.agg #[I g.n,vx,vy,va]) h'):ah prog 266 [ptr r] h K:=by refine aK (ag7 ?_);unfold SR;refine(Own.start h).box λt2 h1 o1=> ?_;obtain⟨vx,vy,va,vo,d,q1,q2,_,_⟩:=H.more o1.ext;simp only[dM,dW,aO,bD,aU,bE];refine ape (cs:=[I g.n,vx,vy,va,vo,d]) q1 aP ?_;refine VR o1 hR ⟨vx,vy,va,rfl,q2⟩ λwx wy wa h2 o2=> ?_;have e:=o2.vw 0 rfl;have p1:=o2.vw 1 rfl;have p2:=o2.vw 2 rfl;refine o2.st (l:=[I g.n,wx,wy,wa]) (cs':=[I g.n,wx,wy,wa]) 3 rfl rfl rfl rfl rfl (by intro u hu;simp at hu;rcases hu with rfl|rfl|rfl|rfl;rfl;exact e.plain;exact p1.plain;exact p2.plain) λh3 a=> ?_;exact a.bZ (cs':=[I g.n,wx,wy,wa]) 3 rfl rfl rfl (hK _ _ _ _ (o.frame (a.bh [0,1,2] az)))
def yz{i:Nat}{ps:List Row}(o:Own h0 h L)(hi:L[i]? =some (lD v ps)):Vw iu 1 h v ps/\∀p∈ps,Vw aJ 1 h p.v p.l:=by have o1:=o.out i hi;have o2:=o1.out 1 rfl;exact⟨o1.vw 0 rfl,λp hp=>o2.zN (aqJ _ (cP.2 ⟨p,hp,rfl⟩))⟩
def EB(o:Own h0 h L)(H:oa h v ds)(hl:ds.length<=2^20)(hd:∀d∈ds,d.length<=2^40)(hK:∀w ps h',ps.map (·.l)=ds->Own h0 h' (lD w ps::L)->K w h'):ah prog 284 [v] h K:=by
 obtain⟨qs,rfl,f,k⟩:=H;rw[gK]at hl;refine aK (aht ?_);unfold Te;refine f.len ?_;have o0:Own h h (aC iu 1 29 (.slice none 0 0) ([]:List Row)::iq (([]:List Row).map λ(p:Row)=>xR p.v p.l):: []):=Own.ef (enc:=iu) (n:=1) (T:=29) (Own.sep (l:=[]) (Own.start h));refine bV qs.length (λi x h'=>x.2.1=I i/\∃ps:List Row,ps.map (·.l)=(qs.take i).map (·.l)/\Own h h' (aC iu 1 29 x.1 ps::iq (ps.map λ(p:Row)=>xR p.v p.l):: [])) ⟨rfl,[],rfl,o0⟩ ?_;rintro i ⟨m,x,⟨⟩⟩ h1 Z hi ⟨hx,ps,hps,o1⟩ hZ;dsimp only at hx hZ |- o1;subst hx;unfold Td;rw[bC,bA];have hlen:ps.length=i:=by have :=eG List.length hps;simp only[gK,dO]at this;omega
 refine⟨λhlt=> ?_,λhge=> ?_⟩
 .have hlt:i<qs.length:=aa;have hq:=cu hlt;refine(f.more o1.ext).dU (e:=λ(p:Row)=>p.v) (λ_=>rfl) hlt ?_;refine HS o1 ((k _ hq).more o1.ext) (hd _ (cP.2 ⟨_,hq,rfl⟩)) λu h2 o2=> ?_;obtain⟨sb,sc,rfl⟩:=(o2.vw 0 rfl).kG;refine o2.fH 1 (⟨sb,qs[i].l.length,sc,qs[i].l⟩:Row) rfl rfl (bW rfl) (λ_=>rfl) DB rfl az aa λq h3 a=> ?_;have a:Own h h3 (xR (.slice sb qs[i].l.length sc) qs[i].l::aC iu 1 29 q (ps++ [(⟨sb,qs[i].l.length,sc,qs[i].l⟩:Row)])::iq (ps.map λ(p:Row)=>xR p.v p.l):: []):=a;have s:=Own.Cl a (j:=1) rfl;rw[bw,wI i aa];refine hZ (_,(_,())) h3 hlt ⟨rfl,ps++ [(⟨sb,qs[i].l.length,sc,qs[i].l⟩:Row)],?_,?_⟩
  .rw[fq,hps,cW hlt,fq];rfl
  .rw[fq];exact s
 .rw[fM aa]at hps;exact hK m ps h1 hps (o.frame (Own.sep (l:=[_,_]) (L:=[]) o1))
def apg(o:Own h0 h L)(hR:g.Right)(H:gG h t g ms)(hl:ms.length<=16)(hK:∀w1 w2 ps qs h',ps.map (·.l)=ms.map (λ(m:Nat)=>(g.toI m).aM)->qs.map (·.l)=ms.map (λ(m:Nat)=>(g.cU m).aM)->Own h0 h' (lD w2 qs::lD w1 ps::L)->K (.tuple #[w1,w2]) h')
  (hd:∀m∈ms,(g.toI m).aM.length<=2^40/\(g.cU m).aM.length<=2^40):ah prog 268 [ptr t] h K:=by
 obtain⟨mv,t1,t2,a,_,q1,q2⟩:=H.ex;refine aK (ag9 ?_);unfold SV;have c2:∀{h'},Ext h h'->hcell h' ⟨t,2,none⟩=some t1:=λe=>bz (e.get a) rfl;have c3:∀{h'},Ext h h'->hcell h' ⟨t,3,none⟩=some t2:=λe=>bz (e.get a) rfl;simp only[dM,dW,aO,bD,aU,bE];refine bJ rfl (c2 (.refl _ _)) (bJ rfl (c3 (.refl _ _)) ?_);refine EB (Own.start h) q1 (by simp;omega) (by intro d hd';obtain⟨m,hm,rfl⟩:=cP.1 hd';exact(hd m hm).1) λw1 ps h1 e1 o1=>⟨bJ rfl (c3 o1.ext) rfl,?_⟩;refine EB o1 (q2.more o1.ext) (by simp;omega) (by intro d hd';obtain⟨m,hm,rfl⟩:=cP.1 hd';exact(hd m hm).2) λw2 qs h2 e2 o2=> ?_;exact hK w1 w2 ps qs h2 e1 e2 (o.frame o2)
end
def jN(g:G)(i:Nat):List UInt8:=fm 8 (g.X.getD i 0)++fm 8 (g.Y.getD i 0)
def lH(a:A):List UInt8:=ct 4 a.f++(ct 4 a.t++ct 4 a.w)
def aqN(g:G):List UInt8:=ct 4 g.n++(ct 4 g.aj.length++((List.range g.n).flatMap (jN g)++g.aj.flatMap lH))
def qm(g:G)(m:Nat):List UInt8:=(g.toI m).aM.flatMap (fm 8)++(g.cU m).aM.flatMap (fm 8)
def ga(g:G)(ms:List Nat):List UInt8:=ct 1 ms.length++(ms.flatMap (ct 4)++ms.flatMap (qm g))
def mu(xs:List Int):List UInt8:=xs.flatMap (fm 1)
def JO{g:G}{i:Nat}:(jN g i).length=16:=by unfold jN;rw[cG,kf,kf]
def JP{a:A}:(lH a).length=12:=by unfold lH;rw[cG,cG,eT,eT,eT]
section
variable{h0 h:af}{L:List aS}{K:KT}{KH:KT}{g:G}{x r t c b w:Nat}{sv lv v tv cv fv:Value}{ms:List Nat}{xs:List Int}{ds:List (List Int)}{bs:List UInt8}
def JQ{k:Nat}{z:List Int}{T:TypeId}{zs:List Value}{parts:List (Nat×Nat×Value)}(o:Own h0 h (wr w sv bs L))(hrow:gq zs parts=row (jL .u32) z)(hsz:mH zs.length parts)(hl:k=z.length)(hb:bs.length+8*z.length<=2^40)
  (hK:∀a h',Own h0 h' (wr w a (bs++z.flatMap (fm 4)) L)->K (.tuple #[]) h'):uX T zs parts k h λt h1=>ah prog 151 [ptr w,t] h1 K:=by
 refine o.build (enc:=jL .u32) (n:=1) z hrow hsz hl λt h1 o=> ?_;refine JF (zs:=z) (L:=aC (jL .u32) 1 T t z::L) (λo=>o.vw 2 rfl) hb (o.front 3 [1,2,0] az az) λa h2 o=> ?_;exact hK a h2 (o.erase 2)
def Zy{z:Int}{T:TypeId}{zs:List Value}{parts:List (Nat×Nat×Value)}(o:Own h0 h (wr w sv bs L))(hrow:gq zs parts=row (jL .u8) [z])(hsz:mH zs.length parts)(hb:bs.length+8<=2^40)
  (hK:∀a h',Own h0 h' (wr w a (bs++fm 1 z) L)->K (.tuple #[]) h'):uX T zs parts 1 h λt h1=>ah prog 149 [ptr w,t] h1 K:=by
 refine o.build (enc:=jL .u8) (n:=1) [z] hrow hsz rfl λt h1 o=> ?_;refine JE (zs:=[z]) (L:=aC (jL .u8) 1 T t [z]::L) (λo=>o.vw 2 rfl) hb (o.front 3 [1,2,0] az az) λa h2 o=> ?_;rw[jy]at o;exact hK a h2 (o.erase 2)
def yA{n:Nat}{K:Value->Prop}(hn:n<4294967296)(hk:K (.int .u32 (n:Nat))):cJ .u32 (I n) K:=by rw[fG,wrap_u32,mC aa aa];exact hk
def aph{n:Nat}{K:Value->Prop}(hn:n<256)(hk:K (.int .u8 (n:Nat))):cJ .u8 (I n) K:=by rw[fG,wrap_u8,mC aa aa];exact hk
def api(hF:gy g)(H:bX h r g)(hx:∀{h'},Ext h h'->hcell h' ⟨x,0,none⟩=some (ptr r))(hK:∀h',Ext h h'->K (.string (qd (aqN g))) h'):ah prog 154 [ptr x] h K:=by
 have hR:=hF.toRight;have q:=hF.jY;have hshort:=hF.short;have hX:=hR.x;have hY:=hR.y;refine aK (afi ?_);unfold Qe;refine Ba (Own.start h) λw s1 h1 o=> ?_;simp only[bD,aU,bE];refine bJ rfl (hx o.ext) (apf o hR (H.more o.ext) λvx vy va h2 o=> ?_);have a:=o.vw 0 rfl;have p1:=o.vw 1 rfl;have p2:=o.vw 2 rfl;refine o.box λg4 h3 o=>o.st (l:=[I g.n,vx,vy,va]) (cs':=[I g.n,vx,vy,va]) 0 rfl rfl rfl rfl rfl (by intro u hu;simp at hu;rcases hu with rfl|rfl|rfl|rfl;rfl;exact a.plain;exact p1.plain;exact p2.plain) λh4 o=> ?_;refine o.load 0 rfl rfl (yA aa (o.load 0 rfl rfl ((o.vw 3 rfl).len (yA aa ?_))));have o:Own h h4 (wr w s1 [] [ak g4 [I g.n,vx,vy,va] 32,xR vx g.X,xR vy g.Y,aR va g.aj]):=o.bh [4,5,0,1,2,3] az;refine JQ (z:=[(g.n:Int),(g.aj.length:Int)]) o rfl (bW rfl) rfl aP λs1 h5 o=>o.load 2 rfl rfl ?_;have e0:([]:List UInt8)++ [(g.n:Int),(g.aj.length:Int)].flatMap (fm 4)=ct 4 g.n++ct 4 g.aj.length++(List.range 0).flatMap (jN g):=by simp[ou (k:=4) (n:=g.n) aa,ou (k:=4) (n:=g.aj.length) aa]
 rw[e0]at o;refine bV g.n (λi y h'=>y.1=I i/\∃s1,Own h h' (wr w s1 (ct 4 g.n++ct 4 g.aj.length++(List.range i).flatMap (jN g)) [ak g4 [I g.n,vx,vy,va] 32,xR vx g.X,xR vy g.Y,aR va g.aj])) ⟨rfl,s1,o⟩ ?_;clear o a p1 p2 e0;rintro i ⟨y,⟨⟩⟩ h6 Z hi ⟨hy,s1,o⟩ hZ;dsimp only at hy hZ |-;subst hy;unfold Qd;have d:(ct 4 g.n++ct 4 g.aj.length++(List.range i).flatMap (jN g)).length=8+16*i:=by rw[cG,cG,eT,eT,jt (N:=16) λ_=>JO,gd]
 rw[bC,bA];simp only[aU,bE];refine⟨λhlt=> ?_,λhge=> ?_⟩
 .have hlt:i<g.n:=aa;refine o.load 2 rfl rfl ((o.vw 3 rfl).Im aa (o.load 2 rfl rfl ((o.vw 4 rfl).Im aa ?_)));refine o.build (enc:=aJ) (n:=1) [g.X[i],g.Y[i]] rfl (bW rfl) rfl λtz h7 o=> ?_;refine JG (zs:=[g.X[i],g.Y[i]]) (L:=aC aJ 1 2 tz [g.X[i],g.Y[i]]:: [ak g4 [I g.n,vx,vy,va] 32,xR vx g.X,xR vy g.Y,aR va g.aj]) (λo=>o.vw 2 rfl) (by rw[d];simp;omega) (o.front 3 [1,2,0] az az) λs1 h8 o=> ?_;have o:=o.erase 2;rw[bw,wI i aa];refine hZ (_,()) h8 hlt ⟨rfl,s1,?_⟩;have e:(List.range (i+1)).flatMap (jN g)=(List.range i).flatMap (jN g)++ [g.X[i],g.Y[i]].flatMap (fm 8):=by
   rw[ku,gV,jy];congr 1;unfold jN;rw[cI,cI,dD aa,dD aa];simp
  rw[e,<-c7];exact o
 .have m:i=g.n:=aa;subst m;refine o.load 2 rfl rfl ((o.vw 5 rfl).len ?_);refine bV g.aj.length (λi y h'=>y.1=I i/\∃s1,Own h h' (wr w s1 (ct 4 g.n++ct 4 g.aj.length++(List.range g.n).flatMap (jN g)++(g.aj.take i).flatMap lH) [ak g4 [I g.n,vx,vy,va] 32,xR vx g.X,xR vy g.Y,aR va g.aj])) ⟨rfl,s1,by simpa using o⟩ ?_;clear o;rintro i ⟨y,⟨⟩⟩ h7 s hi ⟨hy,s1,o⟩ j;dsimp only at hy j |-;subst hy;unfold Qc;rw[bC,bA];refine⟨λhlt=> ?_,λhge=> ?_⟩
  .have hlt:i<g.aj.length:=aa;have ha:=hR.ends _ (cu hlt);have p:((g.aj.take i).flatMap lH).length=12*i:=by rw[jt (N:=12) λ_=>JP,dO,iY hi]
   refine(o.vw 5 rfl).jW qJ hlt ?_;refine o.box λa7 h8 o=>o.st (l:=fI g.aj[i]) (cs':=fI g.aj[i]) 0 rfl rfl rfl rfl rfl (gQ _) λh9 o=> ?_;simp only[aU,bE];refine o.load 0 rfl rfl (yA aa (o.load 0 rfl rfl (yA aa (o.load 0 rfl rfl (yA aa ?_)))));have o:=o.tail;refine JQ (z:=[(g.aj[i].f:Int),(g.aj[i].t:Int),(g.aj[i].w:Int)]) o rfl (bW rfl) rfl (by rw[cG,d,p];simp;omega) λs1 h10 o=> ?_;rw[bw,wI i aa];refine j (_,()) h10 hlt ⟨rfl,s1,?_⟩;have e:(g.aj.take (i+1)).flatMap lH=(g.aj.take i).flatMap lH++ [(g.aj[i].f:Int),(g.aj[i].t:Int),(g.aj[i].w:Int)].flatMap (fm 4):=by rw[cW hlt,gV,jy];congr 1;simp[lH,ou (k:=4) (n:=g.aj[i].f) aa,ou (k:=4) (n:=g.aj[i].t) aa,ou (k:=4) (n:=g.aj[i].w) aa]
   rw[e,<-c7];exact o
  .rw[fM aa]at o;refine yx o ?_;have e:ct 4 g.n++ct 4 g.aj.length++(List.range g.n).flatMap (jN g)++g.aj.flatMap lH=aqN g:=by unfold aqN;simp only[c7]
   rw[e];exact hK _ o.ext
def apj(H:iB h c xs)(hx:∀{h'},Ext h h'->hcell h' ⟨x,2,none⟩=some (ptr c))(hl:xs.length<=2^20)(hz:∀z∈xs,0<=z/\z<256)(hK:∀h',Ext h h'->K (.string (qd (mu xs))) h'):ah prog 156 [ptr x] h K:=by
 refine aK (afk ?_);unfold Qj;refine Ba (Own.start h) λw s1 h1 o=> ?_;simp only[bD,aU,bE];refine bJ rfl (hx o.ext) (X6 o (H.more o.ext) aa λv h2 o=>(o.vw 0 rfl).len ?_);have o:Own h h2 (wr w s1 [] [aC aJ 1 3 v xs]):=o.bh [1,2,0] az;refine bV xs.length (λi y h'=>y.1=I i/\∃s1,Own h h' (wr w s1 ((xs.take i).flatMap (fm 1)) [aC aJ 1 3 v xs])) ⟨rfl,s1,o⟩ ?_;clear o;rintro i ⟨y,⟨⟩⟩ h3 Z hi ⟨hy,s1,o⟩ hZ;dsimp only at hy hZ |-;subst hy;unfold Qi;rw[bC,bA];refine⟨λhlt=> ?_,λhge=> ?_⟩
 .have hlt:i<xs.length:=aa;have a:=hz _ (cu hlt);refine(o.vw 2 rfl).Im hlt ?_;rw[fG,wrap_u8,mC a.1 a.2];refine Zy (z:=xs[i]) o rfl (bW rfl) (by rw[jt (N:=1) λ_=>kf,dO];omega) λs1 h4 o=> ?_;rw[bw,wI i aa];refine hZ (_,()) h4 hlt ⟨rfl,s1,?_⟩;rw[cW hlt,gV,jy];exact o
 .rw[fM aa]at o;exact yx o (hK _ o.ext)
end
section
variable{h0 h:af}{L:List aS}{K:KT}{KH:KT}{g:G}{x r t c b w:Nat}{sv lv v tv cv fv:Value}{ms:List Nat}{xs:List Int}{ds:List (List Int)}{bs:List UInt8}
def rq(hR:g.Right){m:Nat}(hm:m<g.n):(g.toI m).aM.length=g.n/\(g.cU m).aM.length=g.n:=by
 have e1:g.toI (m:Int)=g.to m:=by unfold G.toI;rw[aW ⟨aa,aa⟩];rfl
 have e2:g.cU (m:Int)=g.from m:=by unfold G.cU;rw[aW ⟨aa,aa⟩];rfl
 rw[e1,e2];exact⟨(oQ hR hm).ls.len,(gj hR hm).ls.len⟩
def Zz(hR:g.Right){m:Nat}(hm:m<g.n):(qm g m).length=16*g.n:=by unfold qm;rw[cG,jt (N:=8) λ_=>kf,jt (N:=8) λ_=>kf,(rq hR hm).1,(rq hR hm).2];omega
def apk(hF:gy g)(H:gG h t g ms)(hx:∀{h'},Ext h h'->hcell h' ⟨x,1,none⟩=some (ptr t))(hl:ms.length<=16)(hm:∀m∈ms,m<g.n)(hK:∀h',Ext h h'->K (.string (qd (ga g ms))) h'):ah prog 155 [ptr x] h K:=by
 have hR:=hF.toRight;have k:=hF.jY;refine aK (afj ?_);unfold Qh;refine Ba (Own.start h) λw s1 h1 o=> ?_;simp only[bD,aU,bE];refine bJ rfl (hx o.ext) (vC o (H.more o.ext) hl λmv h2 o=>(o.vw 0 rfl).len ?_);rw[dr];refine aph aa ?_;have o:Own h h2 (wr w s1 [] [aC aJ 1 3 mv (nI ms)]):=o.bh [1,2,0] az;refine Zy (z:=(ms.length:Int)) o rfl (bW rfl) aP λs1 h3 o=>(o.vw 2 rfl).len ?_;rw[sN,ou aa]at o;rw[dr];refine bV ms.length (λi y h'=>y.1=I i/\∃s1,Own h h' (wr w s1 (ct 1 ms.length++(ms.take i).flatMap (ct 4)) [aC aJ 1 3 mv (nI ms)])) ⟨rfl,s1,by simpa using o⟩ ?_;clear o;rintro i ⟨y,⟨⟩⟩ h4 Z hi ⟨hy,s1,o⟩ hZ;dsimp only at hy hZ |-;subst hy;unfold Qg;rw[bC,bA];refine⟨λhlt=> ?_,λhge=> ?_⟩
 .have hlt:i<ms.length:=aa;have a:=hm _ (cu hlt);refine(o.vw 2 rfl).Im (by rw[dr];exact hlt) ?_;rw[show(nI ms)[i]'(by rw[dr];exact hlt)=((ms[i]:Nat):Int) by simp[nI]];refine yA aa (JQ (z:=[(ms[i]:Int)]) o rfl (bW rfl) rfl (by rw[cG,eT,jt (N:=4) λ_=>eT,dO];simp;omega) λs1 h5 o=> ?_);rw[bw,wI i aa];refine hZ (_,()) h5 hlt ⟨rfl,s1,?_⟩;rw[jy,ou aa,c7]at o;rw[cW hlt,gV,jy];exact o
 .have j:i=ms.length:=aa;subst j;rw[fF]at o;simp only[bD,aU,bE];refine bJ rfl (hx o.ext) (apg o hR (H.more o.ext) hl (λw1 w2 ps qs h5 e1 e2 o=> ?_) λm hm'=>⟨by rw[(rq hR (hm m hm')).1];omega,by rw[(rq hR (hm m hm')).2];omega⟩);simp only[cC,cB];refine(o.vw 4 rfl).len ?_;rw[dr];have o:Own h h5 (wr w s1 (ct 1 ms.length++ms.flatMap (ct 4)++(ms.take 0).flatMap (qm g)) [lD w1 ps,lD w2 qs,aC aJ 1 3 mv (nI ms)]):=by
   rw[E7,y9,eO];exact o.bh [2,3,1,0,4] az
  have l1:ps.length=ms.length:=by have :=eG List.length e1;simpa using this
  have l2:qs.length=ms.length:=by have :=eG List.length e2;simpa using this
  refine bV ms.length (λi y h'=>y.1=I i/\∃s1,Own h h' (wr w s1 (ct 1 ms.length++ms.flatMap (ct 4)++(ms.take i).flatMap (qm g)) [lD w1 ps,lD w2 qs,aC aJ 1 3 mv (nI ms)])) ⟨rfl,s1,o⟩ ?_;clear o;rintro i ⟨y,⟨⟩⟩ h6 q hi ⟨hy,s1,o⟩ d;dsimp only at hy d |-;subst hy;unfold Qf;rw[bC,bA];refine⟨λhlt=> ?_,λhge=> ?_⟩
  .have hlt:i<ms.length:=aa;have a:=hm _ (cu hlt);have g1:(ps[i]'aa).l=(g.toI (ms[i]:Nat)).aM:=by
    have :=Fc e1 (i:=i) (by simp;omega);simpa using this
   have g2:(qs[i]'aa).l=(g.cU (ms[i]:Nat)).aM:=by have :=Fc e2 (i:=i) (by simp;omega);simpa using this
   have hb:(ct 1 ms.length++ms.flatMap (ct 4)++(ms.take i).flatMap (qm g)).length<=5000:=by
    have :=Ez (f:=qm g) (N:=16*12) (l:=ms.take i) λm hm'=>by have :=Zz hR (hm m (lK hm'));omega
    rw[cG,cG,eT,jt (N:=4) λ_=>eT];have h3:(ms.take i).length<=16:=by rw[dO];omega
    omega
   have d1:=(rq hR a).1;have d2:=(rq hR a).2;refine(yz o (i:=2) rfl).1.dU (e:=λ(p:Row)=>p.v) (λ_=>rfl) aa ?_;refine JG (zs:=(ps[i]'aa).l) (λo=>(yz o (i:=2) rfl).2 _ (cu _)) (by rw[g1,d1];omega) o λs1 h7 o=> ?_;refine(yz o (i:=3) rfl).1.dU (e:=λ(p:Row)=>p.v) (λ_=>rfl) aa ?_;refine JG (zs:=(qs[i]'aa).l) (λo=>(yz o (i:=3) rfl).2 _ (cu _)) (by rw[g2,d2,cG,g1,jt (N:=8) λ_=>kf,d1];omega) o λs1 h8 o=> ?_;rw[bw,wI i aa];refine d (_,()) h8 hlt ⟨rfl,s1,?_⟩;rw[g1,g2,c7]at o;rw[cW hlt,gV,jy,<-c7];exact o
  .rw[fM aa]at o;refine yx o ?_;have e:ct 1 ms.length++ms.flatMap (ct 4)++ms.flatMap (qm g)=ga g ms:=by unfold ga;simp only[c7]
   rw[e];exact hK _ o.ext
def ZA(h:af)(g:G)(tv:Value)(tm:Option (List Nat)):Prop:=match tm with
 |none=>tv=.pointer none
 |some ms=>∃t,tv=ptr t/\gG h t g ms/\ms≠ []/\ms.length<=16/\ms.Nodup/\∀m∈ms,m<g.n
def JR(h:af)(g:G)(cv fv:Value)(cm:Option (List Int)):Prop:=match cm with
 |none=>cv=.pointer none/\fv=.pointer none
 |some xs=>∃c b M,cv=ptr c/\fv=ptr b/\xs.length=g.n/\jg xs+1=((M:Nat):Int)/\M<=256/\(∀z∈xs,0<=z)/\iB h c xs/\mM h b M g.aj.length (iT g xs M)/\norm xs=xs
structure jv(h:af)(x r:Nat)(g:G)(tv cv fv:Value)(tm:Option (List Nat))(cm:Option (List Int)):Prop where
 x:h[x]? =some (.cells #[ptr r,tv,cv,fv] 52 (0,0))
 n:bX h r g
 t:ZA h g tv tm
 c:JR h g cv fv cm
def jv.toP{tm:Option (List Nat)}{cm:Option (List Int)}(H:jv h x r g tv cv fv tm cm):mq h x r g tv cv fv:=by
 refine⟨H.x,H.n,?_,?_⟩
 .have :=H.t;cases tm with
  |none=>exact .inl this
  |some ms=>obtain⟨t,a,b,c,d,_,e⟩:=this;exact .inr ⟨t,ms,a,b,c,d,e⟩
 .have :=H.c;cases cm with
  |none=>exact .inl this
  |some xs=>obtain⟨c,b,M,q1,q2,f,i,j,k,l,m,_⟩:=this;exact .inr ⟨c,b,xs,M,q1,q2,f,i,j,k,l,m⟩
def jv.more{h':af}{tm:Option (List Nat)}{cm:Option (List Int)}(H:jv h x r g tv cv fv tm cm)(e:Ext h h'):jv h' x r g tv cv fv tm cm:=by
 refine⟨e.get H.x,H.n.more e,?_,?_⟩
 .have :=H.t;cases tm with
  |none=>exact this
  |some ms=>obtain⟨t,a,b,c⟩:=this;exact⟨t,a,b.more e,c⟩
 .have :=H.c;cases cm with
  |none=>exact this
  |some xs=>obtain⟨c,b,M,q1,q2,d,f,i,j,k,l,m⟩:=this;exact⟨c,b,M,q1,q2,d,f,i,j,k.more e,l.more e,m⟩
def ru(xs:List Int):Nat:=(jg xs+1).toNat
def ry(g:G)(tm:Option (List Nat))(cm:Option (List Int)):Nat->Option fW
 |0=>some (1,aqN g)
 |1=>tm.map λms=>(2,ga g ms)
 |2=>cm.map λxs=>(3,mu xs)
 |_=>cm.map λxs=>(4,iT g xs (ru xs))
def pE(g:G)(tm:Option (List Nat))(cm:Option (List Int))(i:Nat):List fW:=(List.range i).filterMap (ry g tm cm)
end
section
variable{h0 h:af}{L:List aS}{K:KT}{KH:KT}{g:G}{x r t c b w x1:Nat}{sv lv v tv cv fv:Value}{tm:Option (List Nat)}{cm:Option (List Int)}{xs:List Int}{s:fW}
def EC{f:Nat}{v:Value}(hc:ah prog f [v] h K):aX prog (.func (.func f) #[v] #[]) [].toArray h K:=hc
def JS(x x1:Nat):Nat->Value
 |0=>.func (.func 154) #[ptr x] #[]
 |1=>.func (.func 155) #[ptr x] #[]
 |2=>.func (.func 156) #[ptr x] #[]
 |_=>.func (.func 157) #[] #[ptr x1]
def ZB(tv cv:Value):Nat->Bool
 |0=>true
 |1=>true != isNil tv
 |_=>true != isNil cv
def ow(x x1:Nat)(tv cv:Value)(i:Nat):List Value:=[I (i+1:Nat),.bool (ZB tv cv i),JS x x1 i]
def ZC(x x1:Nat)(tv cv:Value):List Value:=ow x x1 tv cv 0++ow x x1 tv cv 1++ow x x1 tv cv 2++ow x x1 tv cv 3
def yB{P:Nat->Prop}(h0:P 0)(h1:P 1)(h2:P 2)(h3:P 3):∀i,i<4->P i
 |0,_=>h0
 |1,_=>h1
 |2,_=>h2
 |3,_=>h3
 |i+4,h=>absurd h aa
def apl{K':Value->Prop}:∀i,i<4->K' (.agg (ow x x1 tv cv i).toArray)->pQ 3 4 (.agg (ZC x x1 tv cv).toArray) (I i) K':=λi hi hK=>by refine⟨aa,aa,?_⟩;revert hK;revert i;exact yB id id id id
def apm:∀i,i<4->∀u∈ow x x1 tv cv i,Mh.plainCell u=true:=by
 have key:∀i,i<4->Mh.plainCell (JS x x1 i)=true:=yB rfl rfl rfl rfl;intro i hi u hu;simp only[ow,cV,uo,or_false]at hu;rcases hu with rfl|rfl|rfl
 .rfl
 .rfl
 .exact key i hi
def jv.ZD(H:jv h x r g tv cv fv tm cm):isNil tv=tm.isNone:=by
 have :=H.t;cases tm with
 |none=>rw[show tv=_ from this];rfl
 |some ms=>obtain⟨t,a,_⟩:=this;rw[a];rfl
def jv.JT(H:jv h x r g tv cv fv tm cm):isNil cv=cm.isNone:=by
 have :=H.c;cases cm with
 |none=>rw[this.1];rfl
 |some xs=>obtain⟨c,b,M,a,_⟩:=this;rw[a];rfl
def apn(H:jv h x r g tv cv fv tm cm):∀i,i<4->ZB tv cv i=(ry g tm cm i).isSome:=by
 refine yB rfl ?_ ?_ ?_
 .show(true != isNil tv)=_;rw[H.ZD];cases tm<;>rfl
 .show(true != isNil cv)=_;rw[H.JT];cases cm<;>rfl
 .show(true != isNil cv)=_;rw[H.JT];cases cm<;>rfl
def ED{M:Nat}(h:jg xs+1=((M:Nat):Int)):ru xs=M:=by unfold ru;rw[h];rfl
def apo(hF:gy g)(H:jv h x r g tv cv fv tm cm)(h1:h[x1]? =some (.cells #[ptr x] 37 (0,0))):∀i,i<4->∀s,ry g tm cm i=some s->s.1=i+1/\∀K,(∀h',Ext h h'->K (.string (qd s.2)) h')->aX prog (JS x x1 i) [].toArray h K:=by
 have hc:∀{k:Nat}{v:Value},[ptr r,tv,cv,fv][k]? =some v->∀{h'},Ext h h'->hcell h' ⟨x,k,none⟩=some v:=λ{k v} hk{h'} e=>bz (e.get H.x) (by simpa using hk);refine yB ?_ ?_ ?_ ?_
 .rintro _ ⟨⟩;exact⟨rfl,λK hK=>EC (api hF H.n (hc rfl) hK)⟩
 .intro s hs;have hT:=H.t;cases tm with
  |none=>cases hs
  |some ms=>obtain⟨t,rfl,a,_,b,_,c⟩:=hT;cases hs;exact⟨rfl,λK hK=>EC (apk hF a (hc rfl) b c hK)⟩
 .intro s hs;have hC:=H.c;cases cm with
  |none=>cases hs
  |some xs=>obtain⟨c,b,M,rfl,rfl,o,d,p,f,j,m,_⟩:=hC;cases hs;have q:=hF.jY;refine⟨rfl,λK hK=>EC (apj j (hc rfl) aa (λz hz=>⟨f z hz,?_⟩) hK)⟩;have :=Gq hz;omega
 .intro s hs;have hC:=H.c;cases cm with
  |none=>cases hs
  |some xs=>obtain⟨c,b,M,rfl,rfl,o,d,p,f,j,m,_⟩:=hC;cases hs;refine⟨rfl,λK hK=>cg (l:=[ptr x1]) rfl (afl ?_)⟩;unfold Qk;refine bJ rfl (bz h1 rfl) ?_;show aI (ptr x) _;simp only[bD,aU,bE];refine bJ rfl (hc rfl (.refl _ _)) (amP m ?_);have k:=hK h (.refl _ _);dsimp only at k;rw[ED d]at k;exact k
def apq(hF:gy g)(H:jv h x r g tv cv fv tm cm):∀i,i<4->∀s,ry g tm cm i=some s->s.2.length<=2^30:=by
 have hR:=hF.toRight;have p:=hF.jY;have hshort:=hF.short;refine yB ?_ ?_ ?_ ?_
 .rintro _ ⟨⟩;show(aqN g).length<=_;unfold aqN;rw[cG,cG,cG,eT,eT,jt (N:=16) λ_=>JO,jt (N:=12) λ_=>JP,gd];omega
 .intro s hs;have hT:=H.t;cases tm with
  |none=>cases hs
  |some ms=>
   obtain⟨t,rfl,a,_,b,_,c⟩:=hT;cases hs;show(ga g ms).length<=_;unfold ga;have :=Ez (f:=qm g) (N:=16*12) (l:=ms) λm hm'=>by have :=Zz hR (c m hm');omega
   rw[cG,cG,eT,jt (N:=4) λ_=>eT];omega
 .intro s hs;have hC:=H.c;cases cm with
  |none=>cases hs
  |some xs=>obtain⟨c,b,M,rfl,rfl,j,d,e,k,n,o,_⟩:=hC;cases hs;show(mu xs).length<=_;unfold mu;rw[jt (N:=1) λ_=>kf];omega
 .intro s hs;have hC:=H.c;cases cm with
  |none=>cases hs
  |some xs=>
   obtain⟨c,b,M,rfl,rfl,j,d,e,k,n,o,_⟩:=hC;cases hs;show(iT g xs (ru xs)).length<=_;rw[ED d,iT,vI];have h1:bM g.aj.length<=11:=by unfold bM;omega
   have :=nM e h1;omega
def JU(hF:gy g)(H:jv h x r g tv cv fv tm cm):sE (pE g tm cm 4):=by
 have key:∀s∈pE g tm cm 4,∃i,i<4/\ry g tm cm i=some s:=λs hs=>by obtain⟨i,hi,e⟩:=EO.1 hs;exact⟨i,jw.1 hi,e⟩
 refine⟨?_,λs hs=> ?_,λs hs=> ?_⟩
 .have :=Kh (ry g tm cm) (List.range 4);rw[gd]at this;exact kR this az
 .obtain⟨i,hi,e⟩:=key s hs;have :s.1=i+1:=by
   revert s;revert i;refine yB ?_ ?_ ?_ ?_
   .rintro _ _ ⟨⟩;rfl
   .intro s _ hs;cases tm<;>cases hs;rfl
   .intro s _ hs;cases cm<;>cases hs;rfl
   .intro s _ hs;cases cm<;>cases hs;rfl
  omega
 .obtain⟨i,hi,e⟩:=key s hs;exact apq hF H i hi s e
def JV(hF:gy g)(H:jv h x r g tv cv fv tm cm)(hK:∀w h',Own h h' [aC fD 2 157 w (pE g tm cm 4)]->K w h'):ah prog 73 [ptr x] h K:=by
 refine aK (ad1 ?_);unfold N5;refine(Own.start h).box λx1 h1 o=> ?_;have o:Own h h1 [ak x1 [ptr x] 37]:=o;have H1:=H.more o.ext;have d:∀{l:List (Nat×Nat×Value)}(a b c:Value),l=[(0,1,a),(1,1,b),(2,1,c)]->a.cells= #[a]->b.cells= #[b]->c.cells= #[c]->∀p∈l,p.2.2.cells= #[p.2.2]:=λa b c e h1 h2 h3 p hp=>by
  subst e;simp at hp;rcases hp with rfl|rfl|rfl
  .exact h1
  .exact h2
  .exact h3
 refine o.load 0 rfl rfl (cE (cs':=ow x x1 tv cv 0) (d _ _ _ rfl rfl rfl rfl) rfl rfl (o.load 0 rfl rfl ?_));show aI (ptr x) _;simp only[bD,aU,bE];refine H1.toP.ld rfl (vM H1.toP.t.nil (o.load 0 rfl rfl (cE (cs':=ow x x1 tv cv 1) (d _ _ _ rfl rfl rfl rfl) rfl rfl (o.load 0 rfl rfl ?_))));show aI (ptr x) _;simp only[bD,aU,bE];refine H1.toP.ld rfl (vM H1.toP.c.nil (o.load 0 rfl rfl (cE (cs':=ow x x1 tv cv 2) (d _ _ _ rfl rfl rfl rfl) rfl rfl (o.load 0 rfl rfl ?_))));show aI (ptr x) _;simp only[bD,aU,bE];refine H1.toP.ld rfl (vM H1.toP.c.nil (cE (cs':=ow x x1 tv cv 3) (d _ _ _ rfl rfl rfl rfl) rfl rfl ⟨bW rfl,?_⟩));show bI (σ:=bt [2,32]) (λx hh f=>GC prog (.agg (ZC _ x1 tv cv).toArray) K x.1 x.2.1 hh (λa0 a1 hz=>f (a0,(a1,())) hz)) (.slice none 0 0,(.int .i64 0,())) h1;have o:=Own.ef (enc:=fD) (n:=2) (T:=157) o;refine bV 4 (λi y h'=>y.2.1=I i/\Own h h' [aC fD 2 157 y.1 (pE g tm cm i),ak x1 [ptr x] 37]) ⟨rfl,o⟩ ?_;clear o;rintro i ⟨lv,y,⟨⟩⟩ h2 Z hi ⟨hy,o⟩ hZ;dsimp only at hy hZ |- o;subst hy;unfold GC;rw[bC,bA];refine⟨λhlt=> ?_,λhge=> ?_⟩
 .have hlt:i<4:=aa;have e1:pE g tm cm (i+1)=pE g tm cm i++(match ry g tm cm i with|some s=>[s]|none=>[]):=by
   unfold pE;rw[ku,List.filterMap_append];congr 1;cases h:ry g tm cm i<;>simp[h]
  refine apl i hlt (o.box λs4 h3 o=>o.st (l:=ow x x1 tv cv i) (cs':=ow x x1 tv cv i) 0 rfl rfl rfl rfl rfl (apm i hlt) λh4 o=> ?_);simp only[aU,bE];refine o.load 0 rfl rfl ?_;rw[apn H i hlt];cases hs:ry g tm cm i with
  |none=>rw[hs]at e1;rw[mw,aO];unfold CF;rw[bw,wI i aa];refine hZ (_,(_,())) h4 hlt ⟨rfl,?_⟩;rw[e1,eO];exact o.tail
  | some s=>
   rw[hs]at e1;obtain⟨k1,k2⟩:=apo hF (H.more o.ext) (o.get 2 rfl) i hlt s hs;rw[kz,bF];refine o.load 0 rfl rfl (o.load 0 rfl rfl (k2 _ λh5 j=> ?_));have o:=o.more j;refine⟨o.load 0 rfl rfl rfl,cE (cs':=fD s) (by intro p hp;simp at hp;rcases hp with rfl|rfl<;>rfl) rfl (by rw[<-k1];rfl) ?_⟩;have hl:(pE g tm cm i).length<=i:=by have :=Kh (ry g tm cm) (List.range i);rw[gd]at this;exact this
   refine o.fH 1 s rfl rfl (bW rfl) mN Eu rfl az aa λk h6 o=> ?_;unfold CF;rw[bw,wI i aa];refine hZ (_,(_,())) h6 hlt ⟨rfl,?_⟩;rw[e1];exact o.tail
 .have :i=4:=aa;subst this;exact hK lv h2 (o.bh [0] az)
end
section
variable{h0 h:af}{L:List aS}{K:KT}{KH:KT}{g:G}{x x' r r' t c b w x1:Nat}{sv lv v tv cv fv ki kj sy va vb:Value}{tm:Option (List Nat)}{cm:Option (List Int)}{xs:List Int}{s:fW}{ss:List fW}
def apr(hF:gy g)(H:jv h x r g tv cv fv tm cm)(hK:∀h',Ext h h'->K (.tuple #[.string (qd (dX (pE g tm cm 4))),I 0]) h'):ah prog 23 [ptr x] h K:=by refine aK (adi ?_);unfold MZ;simp only[dM,dW,aO];refine AW hF.toRight H.toP λh1 x1=> ?_;rw[bP,cz,aO];refine JV hF (H.more x1) λw h2 o=>ao5 (JU hF H) (o.vw 0 rfl) λh3 a=> ?_;simp only[cC,cB];exact hK h3 (x1.trans (o.more a).ext λ_ h _=>h)
def neS{K:Value->Prop}(hk:K (.bool false)):uy .neq (.agg (fD s).toArray) (.agg (fD s).toArray) K:=by
 have :(!(((s.1:Nat):Int)==((s.1:Nat):Int)&&qd s.2==qd s.2))=false:=by rw[aco,bT rfl,iJ];rfl
 show K (.bool (!(((s.1:Nat):Int)==((s.1:Nat):Int)&&qd s.2==qd s.2)));rw[this];exact hk
def aps(Ha:Vw fD 2 h va ss)(Hb:Vw fD 2 h vb ss)(hl:ss.length<2^40)(hK:K (.bool true) h):ah prog 83 [va,vb] h K:=by refine aK (aea ?_);unfold Oj;refine Ha.len (Hb.len ?_);rw[fe,iK,aO];refine Ha.len ?_;refine bV ss.length (λi x h'=>x.1=I i/\h'=h) ⟨rfl,rfl⟩ ?_;rintro i ⟨x,⟨⟩⟩ h' Z hi ⟨hx,rfl⟩ hZ;dsimp only at hx hZ |-;subst hx;unfold Oi;rw[bC,bA];refine⟨λhlt=> ?_,λhge=>hK⟩;have hlt:i<ss.length:=aa;refine Ha.jW mN hlt (Hb.jW mN hlt (neS ?_));rw[aO,bw,wI i aa];exact hZ (_,()) _ hlt ⟨rfl,rfl⟩
def apt(hF:gy g)(H:jv h x r g tv cv fv tm cm)(H':jv h x' r' g ki kj sy tm cm)(hK:∀h',Ext h h'->K (.bool true) h'):ah prog 25 [ptr x,ptr x'] h K:=by refine aK (adk ?_);unfold M1;refine AW hF.toRight H.toP λh1 e1=> ?_;rw[bF];refine AW hF.toRight (H'.more e1).toP λh2 e2=> ?_;rw[bF];have e:=e1.trans e2 λ_ h _=>h;refine JV hF (H.more e) λw h3 a=>JV hF ((H'.more e).more a.ext) λw' h4 d=> ?_;have o:=a.frame d;have hl:=(JU hF H).jY;refine aps (o.vw 1 rfl) (o.vw 0 rfl) aa ?_;exact hK h4 (e.trans o.ext λ_ h _=>h)
def ZE(P:Program)(size:Nat)(t10 a t8:Value)(K:KT)(t11:Value)(h_2:af)(Z:KT):Prop:=
 aq .lss t11 t10 λt12=>
 aA t12
 (aX P a [].toArray h_2 λt17 h_3=>
 aY size t8 t11 λt18=>
 aD size t18 t17 h_3 λu h_4=>
 aq .add t11 (.int .i64 1) λt19=>
 Z t19 h_4)
 (K t8 h_2)
def ZF(P:Program)(T:TypeId)(size bytes:Nat)(zero:List Value)(a d:Value)(h:af)(K:KT):Prop:=
 dG T bytes zero a a h λt8 h_1=>
 bB t8 λt10=>
 bI (σ:=bt [11]) (λx hh e=>ZE P size t10 d t8 K x.1 hh (λa0 hz=>e (a0,()) hz)) ((.int .i64 0),()) h_1
def EE{α:Type}{enc:α->List Value}{n bytes:Nat}{T:TypeId}{zero:List Value}{rv:Value}{ys:List α}{z:α}{vo:α->Value}{Rs:Nat->List aS}(he:∀a,(enc a).length=n)(hp:∀a,∀u∈enc a,Mh.plainCell u=true)(hz:enc z=zero)(d:∀a,(vo a).cells.toList=enc a)
  (hl:ys.length<=2^20) (hb:bytes<=24) (hF:∀i(hi:i<ys.length)(h':af)(L':List aS)(K':KT),Own h0 h' (Rs i++L')->(∀h'',Own h0 h'' (Rs (i+1)++L')->K' (vo ys[i]) h'')->aX prog rv [].toArray h' K') (o:Own h0 h (Rs 0))
  (hK:∀w h',Own h0 h' (aC enc n T w ys::Rs ys.length)->K w h'):ZF prog T n bytes zero (I ys.length) rv h K:=by
 unfold ZF;have k:bytes*ys.length<=24*2^20:=nM hb hl;refine o.make (enc:=enc) (n:=n) (a:=z) hz.symm aa aa λw h1 o=>(o.vw 0 rfl).len ?_;rw[nN];refine bV ys.length (λi x h'=>x.1=I i/\Own h0 h' (aC enc n T w (ys.take i++List.replicate (ys.length-i) z)::Rs i)) ⟨rfl,by simpa using o⟩ ?_;clear o;rintro i ⟨x,⟨⟩⟩ h2 Z hi ⟨hx,o⟩ hZ;dsimp only at hx hZ |-;subst hx;unfold ZE;rw[bC,bA];refine⟨λhlt=> ?_,λhge=> ?_⟩
 .have hlt:i<ys.length:=aa;refine hF i hlt h2 _ _ (Own.comm (L:=[_]) o) λh3 o=> ?_;have o:=Own.comm (L':=[_]) o;have hlen:(ys.take i).length=i:=by rw[dO];omega
  refine Own.setAt (a:=ys[i]) (j:=i) o 0 rfl he (hp _) (by simp;omega) (d _) λh4 o=> ?_;rw[bw,wI i aa];refine hZ (_,()) h4 hlt ⟨rfl,?_⟩;have e:(ys.take i++List.replicate (ys.length-i) z).set i ys[i]=ys.take (i+1)++List.replicate (ys.length-(i+1)) z:=by rw[show ys.length-i=(ys.length-(i+1))+1 by omega,y5,mG _ _ aa,hlen,iE,y6,cW hlt,c7];rfl
  rw[<-e];exact o
 .have f:i=ys.length:=aa;subst f;rw[fF,iE,wq,eO]at o;exact hK w h2 o
def ZG(o:Own h0 h L)(hK:∀r1 h',Own h0 h' (ak r1 [ptr r] 260::L)->K (.func (.func 276) #[] #[ptr r1]) h'):ah prog 162 [ptr r] h K:=by refine aK (afp ?_);unfold Qr;exact o.box λr1 h1 o=>hK r1 h1 o
def yC{l rest:List UInt8}{a n r1:Nat}{T:TypeId}(o:Own h0 h L)(i j:Nat)(hj:L[j]? =some (ak r1 [ptr r] T))(hi:L[i]? =some (ak r (dZ l a) 397))(hA:At l a (ct 4 n++rest))(hl:l.length<=2^40)(hn:n<4294967296)
  (hK:∀h',Own h0 h' (L.set i (ak r (dZ l (a+4)) 397))->K (I n) h'):aX prog (.func (.func 276) #[] #[ptr r1]) [].toArray h K:=by
 refine cg (l:=[ptr r1]) rfl (ahh ?_);unfold S7;refine o.load j hj rfl (JH o i hi hA hl eT λh1 o1=> ?_);rw[qZ,pH aa,fG,bK aa aa];exact hK h1 o1
def pF{c:Int}(hK:K (.tuple #[]) h):ah prog 79 [.bool true,I c] h K:=by refine aK (ad6 ?_);unfold Ob;rw[bP,cz,aO];exact hK
end
section
variable{h0 h:af}{L:List aS}{K:KT}{KH:KT}{g:G}{x x' r r' t c b w x1:Nat}{sv lv v tv cv fv ki kj sy va vb:Value}{xs:List Int}
def ZH{i:Nat}(hi:i<=g.n):At (aqN g) (8+16*i) (((List.range g.n).drop i).flatMap (jN g)++g.aj.flatMap lH):=by
 have e:aqN g=(ct 4 g.n++ct 4 g.aj.length++((List.range g.n).take i).flatMap (jN g))++(((List.range g.n).drop i).flatMap (jN g)++g.aj.flatMap lH):=by
  unfold aqN;have :(List.range g.n).flatMap (jN g)=((List.range g.n).take i).flatMap (jN g)++((List.range g.n).drop i).flatMap (jN g):=by rw[<-gV,iI]
  rw[this];simp only[c7]
 have :=At.start (l:=aqN g);rw[e]at this |-;have h2:=this.next;rw[cG,cG,eT,eT,jt (N:=16) λ_=>JO,dO,gd,iY hi,bE]at h2;exact h2
def ZI{i:Nat}(hi:i<=g.aj.length):At (aqN g) (8+16*g.n+12*i) ((g.aj.drop i).flatMap lH):=by
 have h:=ZH (g:=g) (cq _);rw[yM (by rw[gd];exact cq _),y9,sN]at h;have :g.aj.flatMap lH=(g.aj.take i).flatMap lH++(g.aj.drop i).flatMap lH:=by rw[<-gV,iI]
 rw[this]at h;have h2:=h.next;rw[jt (N:=12) λ_=>JP,dO,iY hi]at h2;exact h2
def apu(hF:gy g)(hK:∀r N h',rY N r g->Own h h' [N]->K (ptr r) h'):ah prog 80 [.string (qd (aqN g))] h K:=by
 have hR:=hF.toRight;have B:=hF.jY;have hshort:=hF.short;have hX:=hR.x;have hY:=hR.y;have hlen:(aqN g).length=8+16*g.n+12*g.aj.length:=by have :=(ZI (g:=g) (cq _)).1;rw[uu]at this;simp at this;omega
 refine aK (ad7 ?_);unfold Od;simp only[fQ,pz];rw[dA,bT aa];refine pF (Eo (Own.start h) λrd h1 o=>ZG o λr1 h2 o=>o.box λnx h3 o=>o.bu 0 (cs':=[.func (.func 276) #[] #[ptr r1]]) rfl rfl rfl rfl rfl λh4 o=> ?_);have o:Own h h4 [ak nx [.func (.func 276) #[] #[ptr r1]] 104,ak r1 [ptr rd] 260,ak rd (dZ (aqN g) 0) 397]:=o;have a0:At (aqN g) 0 (ct 4 g.n++(ct 4 g.aj.length++((List.range g.n).flatMap (jN g)++g.aj.flatMap lH))):=At.start;have a1:=a0.next;rw[eT]at a1;refine o.load 0 rfl rfl (o.load 0 rfl rfl (yC o 2 1 rfl rfl a0 aa aa λh5 o=>⟨o.load 0 rfl rfl rfl,yC o 2 1 rfl rfl a1 aa aa λh6 o=> ?_⟩));rw[lS,bT aa,bF,lS,bT aa,bF];rw[iO,bK aa aa,bw,bK aa aa,iO,bK aa aa,bw,bK aa aa,cF,show(((aqN g).length:Int)==8+16*(g.n:Int)+12*(g.aj.length:Int))=true by rw[hlen];simp];refine pF ?_;unfold CG;refine cE (cs':=[I g.n,aT,aT,aT]) (by intro p hp;simp at hp;subst hp;rfl) rfl rfl ?_;refine o.box λg7 h7 o=>o.st (l:=[I g.n,aT,aT,aT]) (cs':=[I g.n,aT,aT,aT]) 0 rfl rfl rfl rfl rfl (by intro u hu;simp at hu;rcases hu with rfl|rfl<;>rfl) λh8 o=> ?_;have o:=Own.ef (enc:=aJ) (n:=1) (T:=2) (Own.ef (enc:=aJ) (n:=1) (T:=2) o);refine bV g.n (λi y h'=>y.1=I i/\∃vx vy,Own h h' [xR vx (g.X.take i),xR vy (g.Y.take i),ak g7 [I g.n,vx,vy,aT] 32,ak nx [.func (.func 276) #[] #[ptr r1]] 104,ak r1 [ptr rd] 260,ak rd (dZ (aqN g) (8+16*i)) 397]) ⟨rfl,aT,aT,o⟩ ?_;clear o;rintro i ⟨y,⟨⟩⟩ h9 Z hi ⟨hy,vx,vy,o⟩ hZ;dsimp only at hy hZ |-;subst hy;unfold Oc;rw[bC,bA];simp only[aU,bE];refine⟨λhlt=> ?_,λhge=> ?_⟩
 .have hlt:i<g.n:=aa;have b0:=ZH (g:=g) hi;have C:=hR.xr _ (cu (show i<g.X.length by omega));have D:=hR.yr _ (cu (show i<g.Y.length by omega));have m:jN g i=fm 8 g.X[i]++fm 8 g.Y[i]:=by
   unfold jN;rw[cI,cI,dD aa,dD aa];rfl
  rw[iD (by rw[gd];exact hlt),jm,sP,m,c7,c7]at b0;have b1:=b0.next;rw[kf]at b1;refine o.load 2 rfl rfl (o.load 2 rfl rfl (JI o 5 rfl b0 aa ⟨aa,aa⟩ λh10 o=>⟨o.load 2 rfl rfl rfl,o.load 2 rfl rfl rfl,?_⟩));refine o.fH 0 g.X[i] rfl rfl (bW rfl) (λ_=>rfl) jb rfl az (by rw[dO];omega) λd h11 o=>⟨o.load 2 rfl rfl rfl,?_⟩;refine JI o 5 rfl b1 aa ⟨aa,aa⟩ λh12 o=>⟨o.load 2 rfl rfl rfl,?_⟩;refine o.fH 1 g.Y[i] rfl rfl (bW rfl) (λ_=>rfl) jb rfl az (by rw[dO];omega) λk e o=> ?_;have hv:=o.vw 0 rfl;have hw:=o.vw 1 rfl;refine o.bu 2 (cs':=[I g.n,d,vy,aT]) rfl rfl rfl hv.one hv.plain λq o=>o.bu 2 (cs':=[I g.n,d,k,aT]) rfl rfl rfl hw.one hw.plain λf o=> ?_;rw[bw,wI i aa];refine hZ (_,()) f hlt ⟨rfl,d,k,?_⟩;rw[cW (show i<g.X.length by omega),cW (show i<g.Y.length by omega)];exact o
 .have s:i=g.n:=aa;subst s;rw[fM aa,fM aa]at o;refine aK (aft ?_);refine EE (n:=3) (enc:=fI) (ys:=g.aj) (z:=⟨0,0,0⟩) (vo:=λa=>.agg (fI a).toArray) (Rs:=λi=>[xR vx g.X,xR vy g.Y,ak g7 [I g.n,vx,vy,aT] 32,ak nx [.func (.func 276) #[] #[ptr r1]] 104,ak r1 [ptr rd] 260,ak rd (dZ (aqN g) (8+16*g.n+12*i)) 397])
   qJ gQ rfl (λ_=>rfl) aa az (λj hj h' L' K' o hk=> ?_) o λva h10 o=> ?_
  .have ha:=hR.ends _ (cu hj);have c0:=ZI (g:=g) (BG hj);rw[iD hj,jm]at c0;unfold lH at c0;rw[c7,c7]at c0;have c1:=c0.next;have c2:=c1.next;rw[eT]at c1 c2;rw[eT]at c2;refine cg (l:=[ptr nx]) rfl (afu ?_);unfold Qu;refine o.box λt1 h11 o=>o.load 4 rfl rfl (o.load 4 rfl rfl (o.load 4 rfl rfl ?_));refine yC o 6 5 rfl rfl c0 aa aa λh12 o=>⟨o.load 4 rfl rfl rfl,o.load 4 rfl rfl rfl,?_⟩;refine yC o 6 5 rfl rfl c1 aa aa λe o=>⟨o.load 4 rfl rfl rfl,?_⟩;refine yC o 6 5 rfl rfl c2 aa aa λq o=> ?_;refine cE (cs':=fI g.aj[j]) (by intro p hp;simp at hp;rcases hp with rfl|rfl|rfl<;>rfl) rfl rfl ?_;refine o.st (l:=fI g.aj[j]) (cs':=fI g.aj[j]) 0 rfl rfl rfl rfl rfl (gQ _) λf o=>o.bZ (cs':=fI g.aj[j]) 0 rfl rfl rfl (hk f ?_);exact o.tail
  .have hv:=o.vw 0 rfl;refine o.bu 3 (cs':=[I g.n,vx,vy,va]) rfl rfl rfl hv.one hv.plain λh11 o=>o.bZ (cs':=[I g.n,vx,vy,va]) 3 rfl rfl rfl ?_;refine VQ hR ⟨vx,vy,va,rfl,o.vw 1 rfl,o.vw 2 rfl,o.vw 0 rfl⟩ λh12 A=>JN (pF ?_);have o:=o.more A;refine o.bZ (cs':=[I g.n,vx,vy,va]) 3 rfl rfl rfl ?_;refine VV o hR ⟨vx,vy,va,rfl,o.vw 1 rfl,o.vw 2 rfl,o.vw 0 rfl⟩ λr N e hN o=> ?_;simp only[cC,cB];exact JN (pF (hK r N e hN (o.bh [0] az)))
end
section
variable{h0 h:af}{L:List aS}{K:KT}{KH:KT}{g:G}{x x' r r' t c b w x1 n4 m5 w9 N:Nat}{sv lv v tv cv fv mv va vb:Value}{xs:List Int}{ds:List (List Int)}{ms:List Nat}
def apv(H:Vw aJ 1 h v xs)(hl:xs.length<=2^20)(hx:∀x∈xs,0<=x/\x<=aN)(hK:K (.bool false) h):ah prog 280 [v,fk 281] h K:=by
 refine aK (ahp ?_);unfold S9;refine aK (aiI ?_);unfold UM;refine H.len ?_;refine bV xs.length (λi x h'=>x.1=I i/\h'=h) ⟨rfl,rfl⟩ ?_;rintro i ⟨x,⟨⟩⟩ h' Z hi ⟨hx',rfl⟩ hZ;dsimp only at hx' hZ |-;subst hx';unfold UL;rw[bC,bA];refine⟨λhlt=> ?_,λhge=> ?_⟩
 .have hlt:i<xs.length:=aa;have hq:=hx _ (cu hlt);have hf:aN=72057594037927936:=rfl;refine H.Im hlt (cg (l:=[I xs[i]]) rfl (ahq ?_));unfold Ta;rw[bC,bR aa,aO,akS,bR aa];show aA (.bool false) _ _;rw[aO,bw,wI i aa];exact hZ (_,()) _ hlt ⟨rfl,rfl⟩
 .show aq .geq (.int .i64 (-1)) (.int .i64 0) _;rw[dA,bR az];exact hK
def apw(H:Vw aJ 1 h v xs)(h4:hcell h ⟨n4,0,none⟩=some (I N))(hN:xs.length=N)(hl:N<=2^20)(hx:∀x∈xs,0<=x/\x<=aN)(hK:K (.bool false) h):aX prog (.func (.func 279) #[] #[ptr n4]) [v].toArray h K:=by refine cg (l:=[v,ptr n4]) rfl (aho ?_);unfold S8;refine H.len (bJ rfl h4 ?_);subst hN;rw[fe,iK,aO];exact apv H hl hx hK
def ZJ(H:oa h v ds)(h4:hcell h ⟨n4,0,none⟩=some (I N))(h5:hcell h ⟨m5,0,none⟩=some mv)(h9:hcell h ⟨w9,0,none⟩=some (.func (.func 279) #[] #[ptr n4]))(Hm:Vw aJ 1 h mv (nI ms))(hd:ds.length=ms.length)(hl:ds.length<=16)(hN:∀d∈ds,d.length=N)(f:N<=2^20)(hx:∀d∈ds,∀x∈d,0<=x/\x<=aN)
  (hK:K (.bool false) h):aX prog (.func (.func 282) #[] #[ptr m5,ptr w9]) [v].toArray h K:=by
 obtain⟨qs,rfl,a,j⟩:=H;rw[gK]at hl hd;refine cg (l:=[v,ptr m5,ptr w9]) rfl (ahr ?_);unfold Tb;refine a.len (bJ rfl h5 (Hm.len ?_));rw[dr,hd,fe,iK,aO];refine bJ rfl h9 (aK (ahs ?_));unfold Tc;refine aK (aiJ ?_);unfold UO;refine a.len ?_;refine bV qs.length (λi x h'=>x.1=I i/\h'=h) ⟨rfl,rfl⟩ ?_;rintro i ⟨x,⟨⟩⟩ h' Z hi ⟨hx',rfl⟩ hZ;dsimp only at hx' hZ |-;subst hx';unfold UN;rw[bC,bA];refine⟨λhlt=> ?_,λhge=> ?_⟩
 .have hlt:i<qs.length:=aa;have hq:=cu hlt;have hm:qs[i].l∈List.map (λ(x:Row)=>x.l) qs:=cP.2 ⟨_,hq,rfl⟩;refine a.dU (e:=λ(p:Row)=>p.v) (λ_=>rfl) hlt (apw (j _ hq) h4 (hN _ hm) f (hx _ hm) ?_);show aA (.bool false) _ _;rw[aO,bw,wI i aa];exact hZ (_,()) _ hlt ⟨rfl,rfl⟩
 .show aq .geq (.int .i64 (-1)) (.int .i64 0) _;rw[dA,bR az];exact hK
def EF(hR:g.Right){m:Nat}(hm:m<g.n):(∀x∈(g.toI m).aM,0<=x/\x<=aN)/\∀x∈(g.cU m).aM,0<=x/\x<=aN:=by
 have e1:g.toI (m:Int)=g.to m:=by unfold G.toI;rw[aW ⟨aa,aa⟩];rfl
 have e2:g.cU (m:Int)=g.from m:=by unfold G.cU;rw[aW ⟨aa,aa⟩];rfl
 rw[e1,e2];have key:∀{l:List A}{tl hd:A->Nat}{n s:Nat}{d:List Int},LS l tl hd n s d->∀x∈d,0<=x/\x<=aN:=λH x hx=>by obtain⟨i,hi,rfl⟩:=qw.1 hx;rw[jc hi];rw[H.len]at hi;exact⟨H.iP hi,H.jX hi⟩
 exact⟨key (oQ hR hm).ls,key (gj hR hm).ls⟩
def Bc{α:Type}{enc:α->List Value}{n:Nat}{T:TypeId}{v:Value}{l:List α}(q:(aC enc n T v l).Q h):Vw enc n h v l:=by obtain⟨bl,H⟩:=q;exact⟨bl,H.view⟩
def ZK{ps:List Row}(q:(lD v ps).Q h)(e:ps.map (·.l)=ds):oa h v ds:=by refine⟨ps,e,Bc (q.1 _ cN),λp hp=> ?_⟩;have q2:=q.1 (iq (ps.map λ(p:Row)=>xR p.v p.l)) aP;exact Bc (q2.1 _ (cP.2 ⟨p,hp,rfl⟩))
def ZL(T:aS)(t:Nat)(g:G)(ms:List Nat):Prop:=∀h,T.Q h->gG h t g ms
def apx(hR:g.Right)(f:g.n<=2^20)(Hm:Vw aJ 1 h mv (nI ms))(H1:oa h va (ms.map λ(m:Nat)=>(g.toI m).aM))(H2:oa h vb (ms.map λ(m:Nat)=>(g.cU m).aM))(hl:ms.length<=16)(hn:ms.Nodup)(hm:∀m∈ms,m<g.n)
  (hK:∀t T h',ZL T t g ms->Own h h' [T]->K (ptr t) h'):ah prog 169 [I g.n,mv,va,vb] h K:=by
 have hpos:=hR.pos;have d1:∀d∈ms.map (λ(m:Nat)=>(g.toI m).aM),d.length=g.n:=by intro d hd;obtain⟨m,hm',rfl⟩:=cP.1 hd;exact(rq hR (hm m hm')).1
 have d2:∀d∈ms.map (λ(m:Nat)=>(g.cU m).aM),d.length=g.n:=by intro d hd;obtain⟨m,hm',rfl⟩:=cP.1 hd;exact(rq hR (hm m hm')).2
 have x1:∀d∈ms.map (λ(m:Nat)=>(g.toI m).aM),∀x∈d,0<=x/\x<=aN:=by intro d hd;obtain⟨m,hm',rfl⟩:=cP.1 hd;exact(EF hR (hm m hm')).1
 have x2:∀d∈ms.map (λ(m:Nat)=>(g.cU m).aM),∀x∈d,0<=x/\x<=aN:=by intro d hd;obtain⟨m,hm',rfl⟩:=cP.1 hd;exact(EF hR (hm m hm')).2
 refine aK (afB ?_);unfold Qx;have l:mv.cells.toList=[mv]:=by rw[Hm.one]
 refine(Own.start h).box λn4 h1 o=>o.box λm5 h2 o=>o.box λw9 h3 o=> ?_;rw[l]at o;refine o.bu 0 (cs':=[.func (.func 279) #[] #[ptr n4]]) rfl rfl rfl rfl rfl λh4 o=> ?_;have o:Own h h4 [ak w9 [.func (.func 279) #[] #[ptr n4]] 217,ak m5 [mv] 43,ak n4 [I g.n] 3]:=o;refine o.load 2 rfl rfl ?_;rw[bC,bR aa,aO];refine o.load 2 rfl rfl (o.load 1 rfl rfl (WW (Hm.more o.ext) hl hn hm λh5 s=> ?_));have o:=o.more s;have e:=Hm.more o.ext;have u:=H1.more o.ext;have y:=H2.more o.ext;rw[bP,cz,aO];have c4:hcell h5 ⟨n4,0,none⟩=some (I g.n):=bz (o.get 2 rfl) rfl;have j:hcell h5 ⟨m5,0,none⟩=some mv:=bz (o.get 1 rfl) rfl;have k:hcell h5 ⟨w9,0,none⟩=some (.func (.func 279) #[] #[ptr n4]):=bz (o.get 0 rfl) rfl;refine ZJ u c4 j k e aP (by simpa using hl) d1 f x1 ?_;rw[aO];refine ZJ y c4 j k e aP (by simpa using hl) d2 f x2 ?_;rw[aO];refine o.load 2 rfl rfl (o.load 1 rfl rfl (xO o e (by rw[dr];omega) λa h6 o=>⟨o.load 3 rfl rfl rfl,?_⟩));refine EB o (H1.more o.ext) (by simp;omega) (λd hd=>by rw[d1 d hd];omega) λtv ps h7 e1 o=>⟨o.load 4 rfl rfl rfl,?_⟩;refine EB o (H2.more o.ext) (by simp;omega) (λd hd=>by rw[d2 d hd];omega) λfv qs h8 e2 o=>⟨o.load 5 rfl rfl rfl,?_⟩;have p1:=(yz o (i:=1) rfl).1;have p2:=(yz o (i:=0) rfl).1;have p3:=o.vw 2 rfl;refine cE (cs':=Ar g.n a tv fv) ?_ rfl rfl ?_
 .intro p hp;simp at hp;rcases hp with rfl|rfl|rfl|rfl
  .rfl
  .exact p3.one
  .exact p1.one
  .exact p2.one
 refine o.box λt h9 o=>hK t (zJ (vB t g.n a tv fv ms ps qs)) h9 (λh q=> ?_) (Own.pack (L:=[]) (o.bh [0,3,2,1] az));exact⟨a,tv,fv,q (ak t (Ar g.n a tv fv) 134) (by simp[vB]),Bc (q (aC aJ 1 3 a (nI ms)) (by simp[vB])),ZK (q (lD tv ps) (by simp[vB])) e1,ZK (q (lD fv qs) (by simp[vB])) e2⟩
end
section
variable{h0 h:af}{L:List aS}{K:KT}{KH:KT}{g:G}{x x' r r' t c b w x1 n4 m5 w9 N:Nat}{sv lv v tv cv fv mv va vb:Value}{xs:List Int}{ds:List (List Int)}{ms:List Nat}
def lI(g:G)(ms:List Nat)(j:Nat):List Int:=if j%2=0 then(g.toI (ms.getD (j/2) 0:Nat)).aM else(g.cU (ms.getD (j/2) 0:Nat)).aM
def nF(g:G)(ms:List Nat)(j:Nat):List UInt8:=(lI g ms j).flatMap (fm 8)
def ZM{q:Nat}:lI g ms (2*q)=(g.toI (ms.getD q 0:Nat)).aM:=by unfold lI;rw[aW aa,show 2*q/2=q by omega]
def ZN{q:Nat}:lI g ms (2*q+1)=(g.cU (ms.getD q 0:Nat)).aM:=by unfold lI;rw[aQ aa,show(2*q+1)/2=q by omega]
def JW(hR:g.Right)(hm:∀m∈ms,m<g.n){j:Nat}(hj:j<2*ms.length):(lI g ms j).length=g.n:=by
 have hq:ms.getD (j/2) 0<g.n:=by rw[cI,dD aa];exact hm _ (cu _)
 unfold lI;split
 .exact(rq hR hq).1
 .exact(rq hR hq).2
def apy(hR:g.Right)(hm:∀m∈ms,m<g.n){j:Nat}(hj:j<2*ms.length):∀x∈lI g ms j,0<=x/\x<=aN:=by
 have hq:ms.getD (j/2) 0<g.n:=by rw[cI,dD aa];exact hm _ (cu _)
 unfold lI;split
 .exact(EF hR hq).1
 .exact(EF hR hq).2
def ZO:∀{k:Nat},k<=ms.length->(ms.take k).flatMap (qm g)=(List.range (2*k)).flatMap (nF g ms)
 |0,_=>aP
 |k+1,h=>by rw[cW aa,gV,ZO aa,jy,show 2*(k+1)=2*k+1+1 by omega,ku,ku,gV,gV,jy,jy,c7];congr 1;unfold nF qm;rw[ZM,ZN,cI,dD aa];rfl
def ZP(hR:g.Right)(hm:∀m∈ms,m<g.n):∀{k:Nat},k<=2*ms.length->((List.range k).flatMap (nF g ms)).length=8*g.n*k
 |0,_=>aP
 |k+1,h=>by rw[ku,gV,cG,ZP hR hm aa,jy,nF,jt (N:=8) λ_=>kf,JW hR hm aa,uv,tZ]
def ZQ:ga g ms=ct 1 ms.length++(ms.flatMap (ct 4)++(List.range (2*ms.length)).flatMap (nF g ms)):=by unfold ga;rw[<-ZO (cq _),fF]
def JX{i:Nat}(hi:i<=ms.length):At (ga g ms) (1+4*i) ((ms.drop i).flatMap (ct 4)++(List.range (2*ms.length)).flatMap (nF g ms)):=by
 have e:ga g ms=(ct 1 ms.length++(ms.take i).flatMap (ct 4))++((ms.drop i).flatMap (ct 4)++(List.range (2*ms.length)).flatMap (nF g ms)):=by
  rw[ZQ];have :ms.flatMap (ct 4)=(ms.take i).flatMap (ct 4)++(ms.drop i).flatMap (ct 4):=by rw[<-gV,iI]
  rw[this];simp only[c7]
 have :=At.start (l:=ga g ms);rw[e]at this |-;have h2:=this.next;rw[cG,eT,jt (N:=4) λ_=>eT,dO,iY hi,bE]at h2;exact h2
def ZR(hR:g.Right)(hm:∀m∈ms,m<g.n){j:Nat}(hj:j<=2*ms.length):At (ga g ms) (1+4*ms.length+8*g.n*j) (((List.range (2*ms.length)).drop j).flatMap (nF g ms)):=by
 have h:=JX (g:=g) (ms:=ms) (cq _);rw[uu,y9,sN]at h;have :(List.range (2*ms.length)).flatMap (nF g ms)=((List.range (2*ms.length)).take j).flatMap (nF g ms)++((List.range (2*ms.length)).drop j).flatMap (nF g ms):=by rw[<-gV,iI]
 rw[this]at h;have h2:=h.next;rw[List.take_range,iY hj,ZP hR hm hj]at h2;exact h2
def apz(hR:g.Right)(hm:∀m∈ms,m<g.n){j i:Nat}(hj:j<2*ms.length)(hi:i<=g.n):At (ga g ms) (1+4*ms.length+8*g.n*j+8*i) (((lI g ms j).drop i).flatMap (fm 8)++((List.range (2*ms.length)).drop (j+1)).flatMap (nF g ms)):=by
 have h:=ZR hR hm (BG hj);rw[iD (by rw[gd];exact hj),jm,sP,nF]at h;have :(lI g ms j).flatMap (fm 8)=((lI g ms j).take i).flatMap (fm 8)++((lI g ms j).drop i).flatMap (fm 8):=by rw[<-gV,iI]
 rw[this,c7]at h;have h2:=h.next;rw[jt (N:=8) λ_=>kf,dO,JW hR hm hj,iY hi]at h2;exact h2
def ZS(hR:g.Right)(hm:∀m∈ms,m<g.n):(ga g ms).length=1+ms.length*(4+16*g.n):=by
 have h:=(ZR (g:=g) (ms:=ms) hR hm (cq _)).1;rw[yM (by rw[gd];exact cq _)]at h;have e:8*g.n*(2*ms.length)=ms.length*(16*g.n):=by rw[um (8*g.n),um 2,Fa,<-Fa 2]
 rw[e]at h;rw[uv];simp at h;omega
def ZT{rd j:Nat}{R:List aS}(hF:gy g)(hm:∀m∈ms,m<g.n)(hl:ms.length<=16)(hj:j<2*ms.length)(o:Own h0 h (ak rd (dZ (ga g ms) (1+4*ms.length+8*g.n*j)) 397::R))
  (hK:∀w h',Own h0 h' (xR w (lI g ms j)::ak rd (dZ (ga g ms) (1+4*ms.length+8*g.n*(j+1))) 397::R)->K w h'):ah prog 168 [I g.n,.func (.func 163) #[ptr rd] #[]] h K:=by
 have hR:=hF.toRight;have e:=hF.jY;have hlen:=JW hR hm hj;have d:(ga g ms).length<=2^40:=by rw[ZS hR hm];have :=nM hl (show 4+16*g.n<=196 by omega);omega
 refine aK (afA ?_);have key:=EE (h0:=h0) (h:=h) (K:=K) (n:=1) (bytes:=8) (T:=2) (enc:=aJ) (ys:=lI g ms j) (z:=0) (zero:=[.int .i64 0]) (rv:=.func (.func 163) #[ptr rd] #[]) (vo:=λa=>I a) (Rs:=λi=>ak rd (dZ (ga g ms) (1+4*ms.length+8*g.n*j+8*i)) 397::R)
  (λ_=>rfl) jb rfl (λ_=>rfl) aa az (λi hi h' L' K' o hk=> ?_) o λw h' o=> ?_
 .rw[hlen]at key;exact key
 .have hr:=apy hR hm hj _ (cu hi);have hf:aN=72057594037927936:=rfl;have a:=apz (g:=g) (ms:=ms) hR hm hj (i:=i) aa;rw[iD hi,jm,c7]at a;exact EC (JI o 0 rfl a d ⟨aa,aa⟩ λh2 o=>hk h2 (by rw[uv,<-sJ];exact o))
 .rw[hlen]at o;exact hK w h' (by rw[uv,tZ,<-sJ];exact o)
end
section
variable{h0 h:af}{L:List aS}{K:KT}{KH:KT}{g:G}{x x' r r' t c b w x1 n4 m5 w9 N:Nat}{sv lv v tv cv fv mv va vb:Value}{xs:List Int}{ds:List (List Int)}{ms:List Nat}
def sG(ps:List Row):aS:=iq (ps.map λ(p:Row)=>xR p.v p.l)
def ZU{i j:Nat}{ps:List Row}(o:Own h0 h L)(hi:L[i]? =some (aC iu 1 29 v ps))(hj:L[j]? =some (sG ps))(hd:ps.map (·.l)=ds):oa h v ds:=by have o2:=o.out j hj;exact⟨ps,hd,o.vw i hi,λp hp=>o2.zN (aqJ _ (cP.2 ⟨p,hp,rfl⟩))⟩
def ZV{ps:List Row}{D:Nat->List Int}{k:Nat}{b:Option Addr}{n c:Nat}(h:ps.map (·.l)=(List.range k).map D):(ps++ [(⟨b,n,c,D k⟩:Row)]).map (·.l)=(List.range (k+1)).map D:=by rw[fq,h,ku,fq];rfl
def apA(hF:gy g)(hN:bX h r g)(hl:ms.length<=16)(hne:ms≠ [])(F:ms.Nodup)(hm:∀m∈ms,m<g.n)(hK:∀t T h',ZL T t g ms->Own h h' [T]->K (ptr t) h'):ah prog 81 [ptr r,.string (qd (ga g ms))] h K:=by
 have hR:=hF.toRight;have M:=hF.jY;have hpos:=ur.2 hne;have hlen:=ZS hR hm;have hmul:=nM hl (show 4+16*g.n<=196 by omega);have s:(ga g ms).length<=2^40:=aa;refine aK (ad8 ?_);unfold Og;have a0:At (ga g ms) 0 (ct 1 ms.length++(ms.flatMap (ct 4)++(List.range (2*ms.length)).flatMap (nF g ms))):=by have :=At.start (l:=ga g ms);rwa[ZQ]at this |-
 refine Eo (Own.start h) λrd h1 o=>Es o 0 rfl a0 s eT λh2 o=> ?_;have a1:=JX (g:=g) (ms:=ms) (fE _);rw[qZ,pH aa,fG,bK aa aa,dA,bT aa,bF,lS,bT aa,bF];simp only[fQ,pz];refine dV (hN.more o.ext) ?_;have e1:(ms.length:Int)*(4+16*(g.n:Int))=((ms.length*(4+16*g.n):Nat):Int):=by rw[uq];rfl
 rw[iO,bK aa aa,bw,bK aa aa,iO,e1,bK aa aa,bw,bK aa aa,cF,show(((ga g ms).length:Int)==1+((ms.length*(4+16*g.n):Nat):Int))=true by rw[hlen];simp];refine pF ?_;unfold CH;refine ZG o λr1 h3 o=> ?_;refine aK (Qw ?_);refine EE (n:=1) (bytes:=8) (T:=3) (enc:=bg) (ys:=ms) (z:=0) (vo:=λa=>I a) (Rs:=λi=>[ak r1 [ptr rd] 260,ak rd (dZ (ga g ms) (1+4*i)) 397])
  (λ_=>rfl) (λa u hu=>by simp[bg]at hu;subst hu;rfl) rfl (λ_=>rfl) aa az (λi hi h' L' K' o hk=> ?_) o λmv h4 o=> ?_
 .have a:=JX (g:=g) (ms:=ms) (BG hi);have f:=hm _ (cu hi);rw[iD hi,jm,c7]at a;exact yC o 1 0 rfl rfl a s aa λh5 o=>hk h5 o
 refine o.box λk h5 o=> ?_;rw[iO,bK aa aa,show(2:Int)*(ms.length:Int)=((2*ms.length:Nat):Int) by omega];have S:∀{j w0 w1 d ps1 h'},Own h h' [aC iu 1 29 w0 d,aC iu 1 29 w1 ps1,sG d,sG ps1,ak k [w0,w1] 269,aC bg 1 3 mv ms,ak r1 [ptr rd] 260,ak rd (dZ (ga g ms) (1+4*ms.length+8*g.n*j)) 397]->True:=λ_=>trivial;have o:Own h h5 [aC iu 1 29 aT ([]:List Row),aC iu 1 29 aT ([]:List Row),sG [],sG [],ak k [aT,aT] 269,aC bg 1 3 mv ms,ak r1 [ptr rd] 260,ak rd (dZ (ga g ms) (1+4*ms.length+8*g.n*0)) 397]:=Own.ef (enc:=iu) (n:=1) (T:=29) (Own.ef (enc:=iu) (n:=1) (T:=29) (Own.sep (l:=[]) (Own.sep (l:=[]) o)))
 clear S;refine bV (2*ms.length) (λi y h'=>y.1=I i/\∃w0 w1 d ps1,d.map (·.l)=(List.range ((i+1)/2)).map (λq=>(g.toI (ms.getD q 0:Nat)).aM)/\ps1.map (·.l)=(List.range (i/2)).map (λq=>(g.cU (ms.getD q 0:Nat)).aM)/\
  Own h h' [aC iu 1 29 w0 d,aC iu 1 29 w1 ps1,sG d,sG ps1,ak k [w0,w1] 269,aC bg 1 3 mv ms,ak r1 [ptr rd] 260,ak rd (dZ (ga g ms) (1+4*ms.length+8*g.n*i)) 397]) ⟨rfl,aT,aT,[],[],rfl,rfl,o⟩ ?_
 clear o;rintro i ⟨y,⟨⟩⟩ h6 Z hi ⟨hy,w0,w1,d,ps1,q0,q1,o⟩ hZ;dsimp only at hy hZ |-;subst hy;unfold Of;have O:d.length=(i+1)/2:=by have :=eG List.length q0;simpa using this
 have p1:ps1.length=i/2:=by have :=eG List.length q1;simpa using this
 rw[bC,bA];refine⟨λhlt=> ?_,λhge=> ?_⟩
 .have hlt:i<2*ms.length:=aa;have A:(i:Int).tmod 2=((i%2:Nat):Int):=by rw[wC aa];omega
  rw[nR];refine⟨az,?_⟩;rw[A,nR];refine⟨az,?_⟩;rw[A,ij];refine⟨aa,?_⟩;rcases Nat.mod_two_eq_zero_or_one i with em|em
  .have e:i=2*(i/2):=aa;have eh:(i+1)/2=i/2:=aa;rw[em];refine o.load (off:=0) 4 rfl rfl (dV (hN.more o.ext) ⟨o.load (off:=0) 4 rfl rfl rfl,?_⟩);refine ZT hF hm hl hlt (o.bh [7,0,1,2,3,4,5,6] az) λH h7 o=>⟨o.load (off:=0) 6 rfl rfl rfl,?_⟩;have hD:lI g ms i=(λq=>(g.toI (ms.getD q 0:Nat)).aM) (i/2):=by rw[e,ZM,<-e]
   rw[hD]at o;generalize J:(λq=>(g.toI (ms.getD q 0:Nat)).aM)=D at *;obtain⟨sb,sc,rfl⟩:=(o.vw 0 rfl).kG;refine o.fH 2 (⟨sb,(D (i/2)).length,sc,D (i/2)⟩:Row) rfl rfl (bW rfl) (λ_=>rfl) DB rfl az aa λB h8 o=> ?_;have hw:=o.vw 2 rfl;rw[ij];refine⟨az,o.bu (off:=0) 6 (cs':=[B,w1]) rfl rfl rfl hw.one hw.plain λh9 o=> ?_⟩;rw[bw,wI i aa];have o:=Own.Cl o (j:=3) (l:=d.map λ(p:Row)=>xR p.v p.l) rfl;refine hZ (_,()) h9 hlt ⟨rfl,B,w1,d++ [(⟨sb,(D (i/2)).length,sc,D (i/2)⟩:Row)],ps1,?_,by rw[show(i+1)/2=i/2 by omega];exact q1,?_⟩
   .rw[show(i+1+1)/2=i/2+1 by omega];rw[eh]at q0;exact ZV q0
   .have o:=o.bh [1,2,3,4,5,6,7,0] az;unfold sG;rw[fq];exact o
  .have e:i=2*(i/2)+1:=aa;rw[em];refine o.load (off:=1) 4 rfl rfl (dV (hN.more o.ext) ⟨o.load (off:=1) 4 rfl rfl rfl,?_⟩);refine ZT hF hm hl hlt (o.bh [7,0,1,2,3,4,5,6] az) λH h7 o=>⟨o.load (off:=1) 6 rfl rfl rfl,?_⟩;have hD:lI g ms i=(λq=>(g.cU (ms.getD q 0:Nat)).aM) (i/2):=by rw[e,ZN,<-e]
   rw[hD]at o;generalize J:(λq=>(g.cU (ms.getD q 0:Nat)).aM)=D at *;obtain⟨sb,sc,rfl⟩:=(o.vw 0 rfl).kG;refine o.fH 3 (⟨sb,(D (i/2)).length,sc,D (i/2)⟩:Row) rfl rfl (bW rfl) (λ_=>rfl) DB rfl az aa λC h8 o=> ?_;have hw:=o.vw 3 rfl;rw[ij];refine⟨az,o.bu (off:=1) 6 (cs':=[w0,C]) rfl rfl rfl hw.one hw.plain λh9 o=> ?_⟩;rw[bw,wI i aa];have o:=Own.Cl o (j:=4) (l:=ps1.map λ(p:Row)=>xR p.v p.l) rfl;refine hZ (_,()) h9 hlt ⟨rfl,w0,C,d,ps1++ [(⟨sb,(D (i/2)).length,sc,D (i/2)⟩:Row)],by rw[show(i+1+1)/2=(i+1)/2 by omega];exact q0,?_,?_⟩
   .rw[show(i+1)/2=i/2+1 by omega];exact ZV q1
   .have o:=o.bh [1,2,3,4,5,6,7,0] az;unfold sG;rw[fq];exact o
 .have e:i=2*ms.length:=aa;subst e;rw[show(2*ms.length+1)/2=ms.length by omega,DD ms (λm=>(g.toI (m:Nat)).aM) 0]at q0;rw[show 2*ms.length/2=ms.length by omega,DD ms (λm=>(g.cU (m:Nat)).aM) 0]at q1;rw[ij];refine⟨az,o.load (off:=0) 4 rfl rfl ?_⟩;rw[ij];refine⟨az,o.load (off:=1) 4 rfl rfl (dV (hN.more o.ext) ⟨o.load (off:=0) 4 rfl rfl rfl,o.load (off:=1) 4 rfl rfl rfl,?_⟩)⟩;refine apx hR aa (Wk (o.vw 5 rfl)) (ZU o (i:=0) (j:=2) rfl rfl q0) (ZU o (i:=1) (j:=3) rfl rfl q1) hl F hm λt T h7 hq o'=>Em (pF ?_);have o:=o.frame o';have hT:=hq _ (o.get 0 rfl);have hv:=Wk (o.vw 6 rfl);refine hv.len ?_;rw[dr];refine bV ms.length (λi y h'=>y.1=I i/\h'=h7) ⟨rfl,rfl⟩ ?_;rintro i ⟨y,⟨⟩⟩ h8 P hi2 ⟨hy,rfl⟩ E;dsimp only at hy E |-;subst hy;unfold Oe;rw[bC,bA];refine⟨λhlt=> ?_,λhge=>hK t T _ hq (o.bh [0] az)⟩;have hlt:i<ms.length:=aa;have f:=hm _ (cu hlt);refine hv.Im (by rw[dr];exact hlt) ?_;rw[show(nI ms)[i]'(by rw[dr];exact hlt)=((ms[i]:Nat):Int) by simp[nI]];have t1:∀(K:KT),K (I 0) h8->ah prog 170 [ptr t,I i,I (ms[i]:Nat)] h8 K:=λK hk=>I4 hT hR hm hlt f (by rw[(oQ hR f).ls.zero];exact hk);have t2:∀(K:KT),K (I 0) h8->ah prog 171 [ptr t,I i,I (ms[i]:Nat)] h8 K:=λK hk=>I5 hT hR hm hlt f (by rw[(gj hR f).ls.zero];exact hk);refine t1 _ ?_;rw[cF,iJ,bF];refine t2 _ ?_;rw[cF,iJ];refine pF ?_;unfold GD;rw[bw,wI i aa];exact E (_,()) _ hlt ⟨rfl,rfl⟩
end
def apB(x:UInt8)(r:Fin 8):(∀k:Fin 8,r.val<=k.val->yf x k.val=false)->x.toNat<2^r.val:=by revert r;revert x;exact AQ (by decide+kernel)
section
variable{h0 h:af}{L:List aS}{K:KT}{KH:KT}{g:G}{x x' r r' t c b w x1 M rows wide:Nat}{sv lv v tv cv fv mv va vb:Value}{xs:List Int}{l bs ys:List UInt8}
def Own.apC{T:TypeId}(o:Own h0 h L)(i:Nat)(hi:L[i]? =some (aC eA 1 T v ys))(hl:ys.length=l.length)(hK:∀h',Own h0 h' (L.set i (aC eA 1 T v l))->KH (I l.length) h'):uE v (.string (qd l)) h KH:=by
 obtain⟨bl,H⟩:=o.get i hi;have H':=H;rcases H with ⟨rfl,rfl⟩|⟨cap,rest,rfl,hb,hr,hle⟩
 .have :l=[]:=nH hl.symm;subst this;refine hK h ?_;have hs:L.set i (aC eA 1 T (.slice none 0 0) ([]:List UInt8))=L:=by
   apply nK;intro n;by_cases e:n=i
   .subst e;rw[hi,jo (fu.1 hi).1]
   .rw[gD (λh=>e h.symm)]
  rwa[hs]
 .have hmin:Nat.min (qd l).size ys.length=l.length:=by rw[pz,hl];exact BA _
  have a:(((qd l).extract 0 l.length).data.map (λb=>Value.int .u8 b.toNat)).toList=row eA l:=by
   rw[tn];have :((qd l).extract 0 l.length).data=(qd l).data:=by rw[EN];exact Array.extract_size
   rw[this];show(l.toArray.map _).toList=_;simp
  simp only[uE,hmin,a];have key:=o.xq (ys:=l) (j:=0) (KP:=KH (.int .i64 (l.length:Nat))) i hi (λ_=>rfl) zM H' rfl aa λh' o'=> ?_
  .simpa using key
  .refine hK h' ?_;have e:ys.take 0++l++ys.drop (0+l.length)=l:=by rw[bE,<-hl,uu];simp
   rw[e]at o';exact o'
def apD(hw:wide<=67108864)(hr:rows*bM wide<=268435456)(a:rows<2^40)(hl:bs.length=rows*bM wide)(hsp:wide%8≠0->∀rr,rr<rows->(bs.getD (rr*bM wide+(bM wide-1)) 0).toNat<2^(wide%8))
  (hK:∀b s h',Own h h' [ak b (j8 rows wide s) 238,aC eA 1 5 s bs]->K (ptr b) h'):ah prog 173 [I rows,I wide,.string (qd bs)] h K:=by
 refine aK (afF ?_);unfold QD;refine Yd (Own.start h) hw hr a λb s h1 o=> ?_;simp only[dM,dW,aO,fQ,pz,bD,aU,bE];refine o.load 0 rfl rfl ((o.vw 1 rfl).len ?_);rw[nN,hl,fe,iK,aO];refine o.load 0 rfl rfl (Own.apC o 1 rfl (by rw[nN,hl]) λh2 o=> ?_);have o:Own h h2 [ak b (j8 rows wide s) 238,aC eA 1 5 s bs]:=o;rw[nR];refine⟨az,?_⟩;rw[show(wide:Int).tmod 8=((wide%8:Nat):Int) by rw[wC aa];omega,cF];by_cases hz:wide%8=0
 .rw[show(((wide%8:Nat):Int)==0)=true by rw[hz];rfl,bF];exact hK b s h2 o
 .rw[show(((wide%8:Nat):Int)==0)=false by simp;omega,aO];refine bV rows (λi y h'=>y.1=I i/\h'=h2) ⟨rfl,rfl⟩ ?_;rintro i ⟨y,⟨⟩⟩ h3 Z hi ⟨hy,rfl⟩ hZ;dsimp only at hy hZ |-;subst hy;unfold QC;rw[bC,bA];simp only[bD,aU,bE];refine⟨λhlt=> ?_,λhge=>hK b s _ o⟩;have hlt:i<rows:=aa;have d:1<=bM wide:=by unfold bM;omega
  have hm:(i+1)*bM wide<=rows*bM wide:=lJ _ aa;have hs:=hsp hz i hlt;have e1:(i+1)*bM wide=i*bM wide+bM wide:=by rw[nJ,Bz]
  refine o.load 0 rfl rfl ?_;rw[bw,wI i aa];refine o.load 0 rfl rfl ?_;rw[iO,show((i+1:Nat):Int)*((bM wide:Nat):Int)=(((i+1)*bM wide:Nat):Int) by rw[uq],bK aa aa,fc,bK aa aa,show(((i+1)*bM wide:Nat):Int)-1=((i*bM wide+(bM wide-1):Nat):Int) by omega];have hidx:i*bM wide+(bM wide-1)<bs.length:=aa;rw[cI,dD hidx,e8]at hs;refine(o.vw 1 rfl).dU (e:=λ(b:UInt8)=>.int .u8 b.toNat) (λ_=>rfl) hidx ⟨aa,?_⟩;have e2:((bs[i*bM wide+(bM wide-1)].toNat:Nat):Int).fdiv (2^(min ((wide%8:Nat):Int).toNat IntKind.u8.bits))=0:=by
   rw[fL,iY (show wide%8<=IntKind.u8.bits by show wide%8<=8;omega),EY _ (Int.pow_nonneg az)];refine Int.ediv_eq_zero_of_lt aa ?_;have :((2^(wide%8):Nat):Int)=(2:Int)^(wide%8):=by rw[Int.natCast_pow];rfl
   omega
  dsimp only;rw[e2,fe,show((0:Int) != 0)=false from rfl,aO,bw,wI i aa];exact hZ (_,()) _ hlt ⟨rfl,rfl⟩
def ZW{r' i':Nat}(hi:g.aj.length<=i')(hi':i'/8<bM g.aj.length):∀{k:Nat},k<=M->fV (kO g xs M k) (bM g.aj.length) r' i'=false
 |0,_=>by unfold kO;exact X8
 |k+1,h=>by rw[Js,Jl (rows:=M) vI aa (λi h=>yg (D0 h)) hi',ZW hi hi' aa,BE];exact bR λ⟨_,h2⟩=>absurd (D0 h2) aa
def apE(hz:g.aj.length%8≠0){rr:Nat}(hr:rr<M):((iT g xs M).getD (rr*bM g.aj.length+(bM g.aj.length-1)) 0).toNat<2^(g.aj.length%8):=by
 refine apB _ ⟨g.aj.length%8,aa⟩ λk hk=> ?_;have a:=k.2;have hk:g.aj.length%8<=k.val:=hk;have hq:(8*(bM g.aj.length-1)+k.val)/8=bM g.aj.length-1:=aa;have hp:(8*(bM g.aj.length-1)+k.val)%8=k.val:=aa;have hl:bM g.aj.length=g.aj.length/8+1:=by unfold bM;omega
 have :=ZW (g:=g) (xs:=xs) (M:=M) (r':=rr) (i':=8*(bM g.aj.length-1)+k.val) aa aa (cq M);unfold fV at this;rw[hq,hp]at this;exact this
def apF(hF:gy g)(hN:bX h r g)(hx:xs.length=g.n)(f:jg xs+1=((M:Nat):Int))(hM2:M<=256)(hz:∀z∈xs,0<=z)(hn:norm xs=xs)(hK:∀c b C h',(∀h,C.Q h->iB h c xs/\mM h b M g.aj.length (iT g xs M))->Own h h' [C]->K (.tuple #[ptr c,ptr b]) h'):
  ah prog 82 [ptr r,.string (qd (mu xs)),.string (qd (iT g xs M))] h K:=by
 have hR:=hF.toRight;have u:=hF.jY;have hshort:=hF.short;have hpos:=hR.pos;have hne:xs≠ []:=λe=>by rw[e]at hx;simp at hx;omega
 have j:(mu xs).length=xs.length:=by unfold mu;rw[jt (N:=1) λ_=>kf,Bz]
 have k:=hz _ (Ma hne);refine aK (ad9 ?_);unfold Oh;simp only[fQ,pz];refine dV hN ?_;rw[j,hx,cF,iJ];refine pF (Eo (Own.start h) λrd h1 o=>o.box λd h2 o=>o.bu 0 (cs':=[ptr rd]) rfl rfl rfl rfl rfl λh3 o=> ?_);have o:Own h h3 [ak d [ptr rd] 260,ak rd (dZ (mu xs) 0) 397]:=o;refine aK (Qw ?_);have key:=EE (h0:=h) (h:=h3) (n:=1) (bytes:=8) (T:=3) (enc:=aJ) (ys:=xs) (z:=0) (zero:=[.int .i64 0]) (rv:=.func (.func 172) #[] #[ptr d]) (vo:=λa=>I a) (Rs:=λi=>[ak d [ptr rd] 260,ak rd (dZ (mu xs) i) 397])
  (K:=λt22 h_6=>ah prog 19 [t22] h_6 λt23 h_7=>bL true .ptr t23 (.pointer none) λt25=>ah prog 79 [t25,(.int .i64 25)] h_7 λt26 h_8=>ah prog 68 [t23] h_8 λt28 h_9=>ah prog 69 [ptr r] h_9 λt30 h_10=>ah prog 173 [t28,t30,.string (qd (iT g xs M))] h_10 λt32 h_11=>bL true .ptr t32 (.pointer none) λt34=>ah prog 79 [t34,(.int .i64 25)] h_11 λt35 h_12=>K (.tuple #[t23,t32]) h_12)
  (λ_=>rfl) jb rfl (λ_=>rfl) aa az (λi hi h' L' K' o hk=> ?_) o λv h4 o=> ?_
 .rw[hx]at key;exact key
 .have m:=hz _ (cu hi);have y:=Gq (cu hi);have a:At (mu xs) i ((xs.drop i).flatMap (fm 1)):=by
   have e:mu xs=(xs.take i).flatMap (fm 1)++(xs.drop i).flatMap (fm 1):=by unfold mu;rw[<-gV,iI]
   have :=At.start (l:=mu xs);rw[e]at this |-;have h2:=this.next;rw[jt (N:=1) λ_=>kf,dO,iY (BG hi),bE,Bz]at h2;exact h2
  rw[iD hi,jm]at a;refine cg (l:=[ptr d]) rfl (afE ?_);unfold QA;refine o.load 0 rfl rfl (Es o 1 rfl a aa kf λh5 o=> ?_);obtain⟨n,hn'⟩:=iX m;have e:jM (fm 1 xs[i])=n:=by rw[hn'];rw[ou aa,qZ];omega
  rw[e,fG,bK aa aa,<-hn'];exact hk h5 o
 .refine X5 o 0 rfl hne hn aa aa k λc v' h5 o=>Em (pF ?_);have hC:iB h5 c xs:=⟨v',o.get 0 rfl,o.vw 1 rfl⟩;refine DW hC (tE (hN.more o.ext) ?_);rw[f];have h11:bM g.aj.length<=11:=by unfold bM;omega
  have hmul:=nM hM2 h11;refine apD aa aa aa vI (λp rr hr=>apE p hr) λb s h6 o'=>Em (pF ?_);have o:=o.frame o';refine hK c b (zJ [ak b (j8 M g.aj.length s) 238,aC eA 1 5 s (iT g xs M),ak c (qV v' xs) 140,aC aJ 1 3 v' xs]) h6 (λh q=> ?_) (Own.pack (L:=[]) (o.bh [0,1,2,3] az));exact⟨⟨v',q (ak c (qV v' xs) 140) aP,Bc (q (aC aJ 1 3 v' xs) aP)⟩,s,q (ak b (j8 M g.aj.length s) 238) aP,Bc (q (aC eA 1 5 s (iT g xs M)) aP)⟩
end
section
variable{h0 h:af}{L:List aS}{K:KT}{KH:KT}{g:G}{x x' r r' t c b w x1 x2 e3 l4 xi M:Nat}{sv lv v tv cv fv kv mv va vb:Value}{xs:List Int}{S ss:List fW}{ks:List Nat}{tm:Option (List Nat)}{cm:Option (List Int)}
def apG(Ha:Vw fD 2 h va S)(Hb:Vw aJ 1 h vb (nI ks))(hl:S.length=ks.length)(f:ks.length<=2^20)(hK:∀h',Ext h h'->K (.bool (decide (S.map (·.1)=ks))) h'):ah prog 77 [va,vb,fk 78] h K:=by
 refine aK (ad4 ?_);unfold N9;refine Ha.len (Hb.len ?_);rw[dr,hl,fe,iK,aO];refine Ha.len ?_;rw[hl];refine bV ks.length (λi y h'=>y.1=I i/\Ext h h'/\(S.take i).map (·.1)=ks.take i) ⟨rfl,.refl _ _,aP⟩ ?_;rintro i ⟨y,⟨⟩⟩ h1 Z hi ⟨hy,x1,hp⟩ hZ;dsimp only at hy hZ |-;subst hy;unfold N8;rw[bC,bA];refine⟨λhlt=> ?_,λhge=> ?_⟩
 .have hlt:i<ks.length:=aa;have hlt':i<S.length:=aa;refine(Ha.more x1).jW mN hlt' ?_;refine(Own.start h1).box λd h2 o=>o.st (l:=fD S[i]) (cs':=fD S[i]) 0 rfl rfl rfl rfl rfl (Eu _) λh3 o=> ?_;refine((Hb.more x1).more o.ext).Im (by rw[dr];exact hlt) ?_;rw[show(nI ks)[i]'(by rw[dr];exact hlt)=((ks[i]:Nat):Int) by simp[nI]];refine o.bZ (cs':=fD S[i]) 0 rfl rfl rfl (cg (l:=[.agg (fD S[i]).toArray,I (ks[i]:Nat)]) rfl (ad5 ?_));unfold Oa;refine o.box λs2 h4 o=> ?_;have o:Own h1 h4 [ak s2 (fD S[i]) 157,ak d (fD S[i]) 157]:=o;simp only[aU,bE];refine o.load 0 rfl rfl ?_;have a:=x1.trans o.ext λ_ h _=>h;have hne:¬S[i].1=ks[i]->S.map (·.1)≠ks:=λhne e=>hne (by have :=Fc e (i:=i) (by simpa using hlt');simpa using this);rw[cF];by_cases e:S[i].1=ks[i]
  .rw[e,iJ,bP,cz,aO,bw,wI i aa];refine hZ (_,()) h4 hlt ⟨rfl,a,?_⟩;rw[cW hlt,cW hlt',fq,hp,List.map_singleton,e]
  .rw[show(((S[i].1:Nat):Int)==((ks[i]:Nat):Int))=false by simp;omega,bP,dL,bF];have :=hK h4 a;rw[bR (hne e)]at this;exact this
 .rw[fM aa,fM aa]at hp;have :=hK h1 x1;rw[bT hp]at this;exact this
def tY(S:List fW)(ks:List Nat):Bool:=decide (ks.length<=S.length/\(S.take ks.length).map (·.1)=ks)
def JY(h4:hcell h ⟨l4,0,none⟩=some lv)(d:Vw fD 2 h lv S)(Hk:Vw aJ 1 h kv (nI ks))(hS:S.length<=16)(hK:∀h',Ext h h'->K (.bool (tY S ks)) h'):aX prog (.func (.func 76) #[] #[ptr l4]) [kv].toArray h K:=by
 refine cg (l:=[kv,ptr l4]) rfl (ad3 ?_);unfold N7;refine bJ rfl h4 (d.len (Hk.len ?_));rw[dr,dA,bA];refine⟨λhle=> ?_,λhle=> ?_⟩
 .have hle:ks.length<=S.length:=aa;refine bJ rfl h4 (Hk.len ?_);rw[dr];refine d.sub (a:=0) (j:=ks.length) mN rfl rfl (fE _) hle λv' f=> ?_;rw[ox,jl]at f;refine apG f Hk (by rw[dO];omega) aa λh' x'=> ?_;have e:tY S ks=decide ((S.take ks.length).map (·.1)=ks):=by
   unfold tY;rw[pN];exact⟨λh=>h.2,λh=>⟨hle,h⟩⟩
  rw[<-e];exact hK h' x'
 .have :=hK h (.refl _ _);rw[show tY S ks=false from bR λh=>absurd h.1 aa]at this;exact this
def yD(g:G):Option (List Nat)->List fW
 |none=>[]
 |some ms=>[(2,ga g ms)]
def pG(g:G):Option (List Int)->List fW
 |none=>[]
 |some xs=>[(3,mu xs),(4,iT g xs (ru xs))]
def apH:pE g tm cm 4=(1,aqN g)::(yD g tm++pG g cm):=by cases tm<;>cases cm<;>rfl
abbrev JZ(xi l4 e3 x2 r:Nat)(lv w tv cv fv:Value)(ss:List fW)(L:List aS):List aS:=ak xi [ptr r,tv,cv,fv] 52::ak l4 [lv] 148::aC fD 2 157 w ss::ak e3 [I 0] 60::ak x2 [ptr xi] 37::L
def ZX{w:Value}(o:Own h0 h (JZ xi l4 e3 x2 r lv w tv cv fv ss L))(a:∀h',Vw fD 2 h' w ss->Vw fD 2 h' lv ([]:List fW))(hK:∀h',Own h0 h' (ak xi [ptr r,tv,cv,fv] 52::L)->K (.tuple #[ptr xi,I 0]) h'):Cw prog (ptr l4) (ptr x2) (ptr e3) K h:=by unfold Cw;refine o.load 1 rfl rfl ((a h (o.vw 2 rfl)).len ?_);rw[vX,cF];refine pF (o.load 4 rfl rfl (o.bu 4 (cs':=[ptr xi]) rfl rfl rfl rfl rfl λh1 o=>o.bu 3 (cs':=[I 0]) rfl rfl rfl rfl rfl λh2 o=> ?_));exact ao9 (o.load 4 rfl rfl (o.load 3 rfl rfl (hK h2 (o.front 5 [0] az az))))
def apI:tY (pG g cm) [3,4]=cm.isSome:=by
 cases cm with
 |none=>rfl
 |some xs=>exact bT ⟨cq 2,rfl⟩
def apJ:tY (yD g tm++pG g cm) [2]=tm.isSome:=by
 cases tm with
 |some ms=>exact bT ⟨Nat.succ_le_succ (fE _),rfl⟩
 |none=>
  cases cm with
  |none=>rfl
  |some xs=>exact bR λh=>absurd h.2 (by show ¬[3]=[2];decide)
def apK{S:List fW}{l:List UInt8}:tY ((1,l)::S) [1]=true:=bT ⟨Nat.succ_le_succ (fE _),rfl⟩
def ZY:(pG g cm).length<=2:=by
 cases cm with
 |none=>exact fE _
 |some xs=>exact cq 2
def apL:(yD g tm).length<=1:=by
 cases tm with
 |none=>exact fE _
 |some ms=>exact cq 1
def Z0(g:G)(xs:List Int):Prop:=xs.length=g.n/\jg xs+1=((ru xs:Nat):Int)/\ru xs<=256/\(∀z∈xs,0<=z)/\norm xs=xs
def apM(g:G)(ms:List Nat):Prop:=ms≠ []/\ms.length<=16/\ms.Nodup/\∀m∈ms,m<g.n
def Z3{w:Value}{N:aS}(hF:gy g)(o:Own h0 h (JZ xi l4 e3 x2 r lv w tv (.pointer none) (.pointer none) ss (N::L)))(d:∀h',Vw fD 2 h' w ss->Vw fD 2 h' lv (pG g cm))(hN:rY N r g)(hv:Mh.plainCell tv=true)(hC:∀xs,cm=some xs->Z0 g xs)
  (hK:∀cv fv C h',(∀h,C.Q h->JR h g cv fv cm)->Own h0 h' (ak xi [ptr r,tv,cv,fv] 52::C::N::L)->K (.tuple #[ptr xi,I 0]) h'):Cx prog (ptr l4) (ptr x2) (ptr e3) K h:=by
 unfold Cx;refine o.build (enc:=aJ) (n:=1) [3,4] rfl (bW rfl) rfl λkv h1 o=> ?_;have k:=@ZY g cm;refine JY (S:=pG g cm) (ks:=[3,4]) (bz (o.get 2 rfl) rfl) (d h1 (o.vw 3 rfl)) (o.vw 0 rfl) aa λh2 e=> ?_;have o:=(o.more e).tail;rw[apI];cases cm with
 |none=>rw[mw,aO];refine ZX o d λh3 o=> ?_;refine hK _ _ gX h3 (λh _=>⟨rfl,rfl⟩) ?_;exact Own.swap (o.cons (r:=gX) (.refl _ _) trivial λb hb=>hb.elim)
 |some xs=>obtain⟨d1,d2,d3,d4,d5⟩:=hC xs rfl;rw[kz,bF];have H2:Vw fD 2 h2 lv [(3,mu xs),(4,iT g xs (ru xs))]:=d h2 (o.vw 2 rfl);refine o.load 4 rfl rfl (o.load 4 rfl rfl (o.load 4 rfl rfl ?_));show aI (ptr xi) _;simp only[bD,aU,bE];refine o.load 0 rfl rfl (o.load 1 rfl rfl ?_);refine H2.tg mN (j:=1) (i:=0) (u:=.string (qd (mu xs))) aP az rfl (o.load 1 rfl rfl ?_);refine H2.tg mN (j:=1) (i:=1) (u:=.string (qd (iT g xs (ru xs)))) aP az rfl ?_;refine apF hF (hN _ (o.get 5 rfl)) d1 d2 d3 d4 d5 λc b C h3 hq o'=> ?_;have o:=o.frame o';refine⟨o.load 5 rfl rfl rfl,o.load 5 rfl rfl rfl,?_⟩;simp only[cC,cB,bD,aU,bE];refine o.bu 1 (cs':=[ptr r,tv,ptr c,.pointer none]) rfl rfl rfl rfl rfl λh4 o=>⟨o.load 5 rfl rfl rfl,?_⟩;refine o.bu 1 (cs':=[ptr r,tv,ptr c,ptr b]) rfl rfl rfl rfl rfl λh5 o=>o.load 2 rfl rfl ?_;refine Vw.xN (h:=h5) (a:=2) (j:=2) mN (d h5 (o.vw 3 rfl)) rfl rfl (cq _) (cq _) λl hlv=> ?_;obtain⟨lb,lc,rfl⟩:=(hlv h5 (d h5 (o.vw 3 rfl))).kG;refine o.bu 2 (cs':=[_]) rfl rfl rfl rfl rfl λh6 o=> ?_;refine ZX (L:=C::N::L) (o.front 6 [1,2,3,4,5,0] az az) (λh' f=>hlv h' (d h' f)) λh7 o=> ?_;exact hK (ptr c) (ptr b) C h7 (λh q=>⟨c,b,ru xs,rfl,rfl,d1,d2,d3,d4,(hq h q).1,(hq h q).2,d5⟩) o
def apN(hF:gy g)(hT:∀ms,tm=some ms->apM g ms)(hC:∀xs,cm=some xs->Z0 g xs)(hS:sE (pE g tm cm 4))(hK:∀xi r tv cv fv h',Ext h h'->jv h' xi r g tv cv fv tm cm->K (.tuple #[ptr xi,I 0]) h'):
  ah prog 24 [.string (qd (dX (pE g tm cm 4)))] h K:=by
 refine aK (adj ?_);unfold M0;have ht:=@apL g tm;have hc:=@ZY g cm;refine(Own.start h).box λx2 h1 o=>o.box λe3 h2 o=>apd hS λw h3 o'=> ?_;have o:=o.frame o';simp only[cC,cB];refine o.box λl4 h4 o=> ?_;have hw:=o.vw 1 rfl;refine o.bu 0 (cs':=[w]) rfl rfl rfl hw.one hw.plain λh5 o=>o.bu 2 (cs':=[I 0]) rfl rfl rfl rfl rfl λh6 o=>o.load 2 rfl rfl ?_;rw[fe,iK,aO];rw[apH]at o;generalize hss:(1,aqN g)::(yD g tm++pG g cm)=ss at o;have y:ss.length<=16:=by rw[<-hss,fO,cG];omega
 have o:Own h h6 [ak l4 [w] 148,aC fD 2 157 w ss,ak e3 [I 0] 60,ak x2 [.pointer none] 37]:=o;refine o.build (enc:=aJ) (n:=1) [1] rfl (bW rfl) rfl λkv h7 o=> ?_;refine JY (S:=ss) (ks:=[1]) (bz (o.get 1 rfl) rfl) (o.vw 2 rfl) (o.vw 0 rfl) y λh8 z=> ?_;have o:=(o.more z).tail;rw[show tY ss [1]=true by rw[<-hss];exact apK];refine pF (o.load 0 rfl rfl ?_);have hpos:0<ss.length:=by rw[<-hss,fO];omega
 refine(o.vw 1 rfl).tg mN (j:=1) (i:=0) (u:=.string (qd (aqN g))) hpos az (by subst hss;rfl) ?_;refine apu hF λr N h9 hN o'=> ?_;have o:=o.frame o';refine cE (cs':=[ptr r,.pointer none,.pointer none,.pointer none]) (by intro p hp;simp at hp;subst hp;rfl) rfl rfl ?_;refine o.box λxi h10 o=>o.bu 5 (cs':=[ptr xi]) rfl rfl rfl rfl rfl λh11 o=>o.load 2 rfl rfl ?_;refine Vw.xN (h:=h11) (a:=1) (j:=ss.length) mN (o.vw 3 rfl) rfl rfl hpos (cq _) λe hlv=> ?_;have ed:(ss.drop 1).take (ss.length-1)=yD g tm++pG g cm:=by rw[<-hss,ES,ox,fO,vS,fF]
 rw[ed]at hlv;obtain⟨lb,lc,d⟩:=(hlv h11 (o.vw 3 rfl)).kG;refine o.bu 2 (cs':=[e]) rfl rfl rfl (by rw[d];rfl) (by rw[d];rfl) λh12 o=> ?_;have o:Own h h12 (JZ xi l4 e3 x2 r e w (.pointer none) (.pointer none) (.pointer none) ss [N]):=o.bh [0,2,3,4,5,1] az;refine o.build (enc:=aJ) (n:=1) [2] rfl (bW rfl) rfl λkv F o=> ?_;refine JY (S:=yD g tm++pG g cm) (ks:=[2]) (bz (o.get 2 rfl) rfl) (hlv _ (o.vw 3 rfl)) (o.vw 0 rfl) (by rw[cG];omega) λq A=> ?_;have k:=(o.more A).tail;rw[apJ];cases tm with
 |none=>rw[mw,aO];refine Z3 (cm:=cm) hF k (λh' l=>hlv h' l) hN rfl hC λcv fv C s hq o=> ?_;exact hK xi r _ cv fv s o.ext ⟨o.get 0 rfl,hN _ (o.get 2 rfl),rfl,hq _ (o.get 1 rfl)⟩
 |some ms=>obtain⟨d1,d2,d3,d4⟩:=hT ms rfl;rw[kz,bF];have H2:Vw fD 2 q e ((2,ga g ms)::pG g cm):=hlv q (k.vw 2 rfl);have o:=k;refine o.load 4 rfl rfl (o.load 4 rfl rfl ?_);show aI (ptr xi) _;simp only[bD,aU,bE];refine o.load 0 rfl rfl (o.load 1 rfl rfl ?_);refine H2.tg mN (j:=1) (i:=0) (u:=.string (qd (ga g ms))) aP az rfl ?_;refine apA hF (hN _ (o.get 5 rfl)) d2 d1 d3 d4 λt T s hq o'=> ?_;have o:=o.frame o';refine⟨o.load 5 rfl rfl rfl,?_⟩;refine o.bu 1 (cs':=[ptr r,ptr t,.pointer none,.pointer none]) rfl rfl rfl rfl rfl λf o=>o.load 2 rfl rfl ?_;have H3:Vw fD 2 f e ((2,ga g ms)::pG g cm):=hlv f (o.vw 3 rfl);refine Vw.xN (h:=f) (a:=1) (j:=((2,ga g ms)::pG g cm).length) mN H3 rfl rfl aP (cq _) λB m=> ?_;rw[ES,ox,fO,vS,fF]at m;obtain⟨lb,lc,d⟩:=(m f H3).kG;refine o.bu 2 (cs':=[B]) rfl rfl rfl (by rw[d];rfl) (by rw[d];rfl) λH o=> ?_;refine Z3 (cm:=cm) (L:=[T]) hF (o.bh [1,2,3,4,5,6,0] az) (λh' l=>m h' (hlv h' l)) hN rfl hC λcv fv C D E o=> ?_;exact hK xi r _ cv fv D o.ext ⟨o.get 0 rfl,hN _ (o.get 2 rfl),⟨t,rfl,hq _ (o.get 3 rfl),d1,d2,d3,d4⟩,E _ (o.get 1 rfl)⟩
end
section
variable{h0 h:af}{L T:List aS}{K:KT}{g:G}{p:jK}{x r s t way:Nat}{act:Int}{tv cv fv:Value}{tm:Option (List Nat)}{cm:Option (List Int)}
def apO(hF:gy g)(H:jv h x r g tv cv fv tm cm)(hK:∀xi r' ki kj sy h',Ext h h'->jv h' xi r' g ki kj sy tm cm->K (ptr xi) h'):ah prog 8 [ptr x] h K:=by
 refine aK (ac1 ?_);unfold Mw;refine apr hF H λh1 x1=> ?_;simp only[cC,cB];refine apN hF (λms e=> ?_) (λxs e=> ?_) (JU hF H) λxi r' ki kj sy h2 x2 H2=> ?_
 .have :=H.t;subst e;obtain⟨t,_,_,a,b,c,d⟩:=this;exact⟨a,b,c,d⟩
 .have :=H.c;subst e;obtain⟨c,b,M,_,_,j,f,k,l,_,_,m⟩:=this;exact⟨j,by rw[ED f];exact f,by rw[ED f];exact k,l,m⟩
 .simp only[cC,cB];rw[fe,iK,aO,fe,iK,aO];have e:=x1.trans x2 λ_ h _=>h;refine apt hF (H.more e) H2 λh3 i=> ?_;rw[bP,cz,aO];exact hK xi r' ki kj sy h3 (e.trans i λ_ h _=>h) (H2.more i)
def apP(hF:gy g)(hw:p.wrong=0)(hd2:∀x∈p.lG,0<=x/\x<=4294967295)(hx:h[x]? =some (.cells #[ptr r,tv,cv,fv] 52 (0,0)))(hN:bX h r g)(hT:yl h g p tv)(hC:vJ h g p cv fv):
  ∃tm cm,jv h x r g tv cv fv tm cm/\(tm.isNone=decide (p.marks=0))/\(cm.isNone=decide (p.kind=0)):=by
 have hR:=hF.toRight;have hpos:=hR.pos;have f:=(@ye p).1.1 hw;have hmk:=gM (f 0 az);have h1:∃tm,ZA h g tv tm/\tm.isNone=decide (p.marks=0):=by
  rcases hT with ⟨h0,h⟩|⟨h1,t,h2,h3⟩
  .exact⟨none,h,(bT h0).symm⟩
  .obtain⟨d,a,b⟩:=Jh (p:=p) hR hF.mid.sm hmk.1 λx hx=>(hd2 x hx).1;exact⟨some _,⟨t,h2,h3,λe=>by rw[e]at b;simp at b;omega,aa,d,a⟩,(bR h1).symm⟩
 have h2:∃cm,JR h g cv fv cm/\cm.isNone=decide (p.kind=0):=by
  rcases hC with ⟨h0,h1,h2⟩|⟨h1,c,b,xs,M,h2,h3,h4,h5,h6,h7⟩
  .exact⟨none,⟨h1,h2⟩,(bT h0).symm⟩
  .have hcell:=(gM (f 3 az)).resolve_left h1;obtain⟨f1,f2,f3,f4⟩:=h4.facts hR hcell.1;exact⟨some xs,⟨c,b,M,h2,h3,f1,h5,aa,λz hz=>by rw[<-f2]at hz;exact(Cr (ns:=[]) hz).1,h6,h7,f2⟩,(bR h1).symm⟩
 obtain⟨tm,a,b⟩:=h1;obtain⟨cm,c,d⟩:=h2;exact⟨tm,cm,⟨hx,hN,a,c⟩,b,d⟩
def sH(m k:Bool):Nat:=2+(if m then 0 else 2)+(if k then 0 else 1+(if m then 0 else 1))
def apQ:(pg tv cv).length=sH (isNil tv) (isNil cv):=by unfold pg iV sH;generalize isNil tv=a;generalize isNil cv=b;revert a b;decide
def apR{vb vd:Value}{bs ds:List Int}{mk kd cl e0 e1 ac:Int}{rl:Bool}(Hb:Vw rW 1 h vb bs)(Hd:Vw aqI 1 h vd ds)(hr:∀x∈ds,0<=x/\x<=4294967295)(r1:0<=mk/\mk<=255)(r2:0<=kd/\kd<=255)(r3:0<=cl/\cl<=255)(C:0<=e0/\e0<=255)(D:0<=e1/\e1<=255)(ha: -128<=ac/\ac<=127)
  (hK:∀h',Ext h h'->K (.bool true) h'):aF prog 3 #[Eh vb vd mk kd cl rl,.agg #[.int .u8 e0,.int .u8 e1],.int .i8 ac] h K:=by
 have hf:aN=72057594037927936:=rfl;refine acW ?_;unfold Mn;refine(Own.start h).box λd2 h1 o=>o.box λends h2 o=> ?_;have o:Own h h2 [ak ends [.int .u8 e0,.int .u8 e1] 26,ak d2 (tV vb vd mk kd cl rl) 25]:=o;refine aoP λh3 E=> ?_;have o2:=o.more E;rw[bP,cz,aO];have v:=o2.ext;have ld:∀{h':af}{K':Value->Prop},Ext h3 h'->K' (Eh vb vd mk kd cl rl)->bq 6 h' (ptr d2) K':=λF hk=>(o2.more F).bZ 1 rfl rfl rfl hk;refine gW (λy h'=>∃g5 b g vx vy va p dv,y=(ptr g5,(ptr b,()))/\gy g/\Za p/\Own h3 h' [ak g5 [I g.n,vx,vy,va] 32,ak b (gw p dv) 35,JC vx vy va g,aC aqI 1 253 dv p.lG]) (λJ hJ=> ?_) ?_
 .have o:=Own.start h3;refine ld o.ext (ld o.ext ?_);have M:=Hb.more v;have N:=Hd.more v
  repeat' (first
   |refine aoL o (M.more o.ext) λg vx vy va hh fg c o=> ?_
   |refine aoM o (N.more o.ext) hr r1 r2 r3 λp dv hh fp d o=> ?_
   |refine o.box λX hh o=> ?_
   |exact ld o.ext rfl
   |refine o.st (l:=[I g.n,vx,vy,va]) (cs':=[I g.n,vx,vy,va]) 0 rfl rfl rfl rfl rfl c λhh o=> ?_
   |refine o.st (l:=[I g.n,vx,vy,va]) (cs':=[I g.n,vx,vy,va]) 1 rfl rfl rfl rfl rfl c λhh o=> ?_
   |refine o.st (l:=[I g.n,vx,vy,va]) (cs':=[I g.n,vx,vy,va]) 2 rfl rfl rfl rfl rfl c λhh o=> ?_
   |refine o.st (l:=[I g.n,vx,vy,va]) (cs':=[I g.n,vx,vy,va]) 3 rfl rfl rfl rfl rfl c λhh o=> ?_
   |refine o.st (l:=gw p dv) (cs':=gw p dv) 0 rfl rfl rfl rfl rfl d λhh o=> ?_
   |refine o.st (l:=gw p dv) (cs':=gw p dv) 1 rfl rfl rfl rfl rfl d λhh o=> ?_
   |refine o.st (l:=gw p dv) (cs':=gw p dv) 2 rfl rfl rfl rfl rfl d λhh o=> ?_
   |refine o.st (l:=gw p dv) (cs':=gw p dv) 3 rfl rfl rfl rfl rfl d λhh o=> ?_
   |exact hJ _ _ ⟨_,_,_,_,_,_,_,_,rfl,fg,fp,o.bh [1,0,3,2] az⟩
   |exact hJ _ _ ⟨_,_,_,_,_,_,_,_,rfl,fg,fp,o.bh [0,1,3,2] az⟩
   |exact hJ _ _ ⟨_,_,_,_,_,_,_,_,rfl,fg,fp,o.bh [2,0,3,1] az⟩
   |exact hJ _ _ ⟨_,_,_,_,_,_,_,_,rfl,fg,fp,o.bh [2,1,3,0] az⟩
   |exact hJ _ _ ⟨_,_,_,_,_,_,_,_,rfl,fg,fp,o.bh [0,2,3,1] az⟩
   |exact hJ _ _ ⟨_,_,_,_,_,_,_,_,rfl,fg,fp,o.bh [1,2,3,0] az⟩
   |exact hJ _ _ ⟨_,_,_,_,_,_,_,_,rfl,fg,fp,o.bh [3,0,2,1] az⟩
   |exact hJ _ _ ⟨_,_,_,_,_,_,_,_,rfl,fg,fp,o.bh [3,1,2,0] az⟩
   |exact hJ _ _ ⟨_,_,_,_,_,_,_,_,rfl,fg,fp,o.bh [3,2,1,0] az⟩
   |exact hJ _ _ ⟨_,_,_,_,_,_,_,_,rfl,fg,fp,o.bh [0,3,2,1] az⟩
   |exact hJ _ _ ⟨_,_,_,_,_,_,_,_,rfl,fg,fp,o.bh [1,3,2,0] az⟩
   |exact hJ _ _ ⟨_,_,_,_,_,_,_,_,rfl,fg,fp,o.bh [2,3,1,0] az⟩
   |with_reducible apply And.intro)
 .rintro⟨y,z,⟨⟩⟩ h4 ⟨g5,b,g,vx,vy,va,p,dv,e,hF,hP,O⟩;injection e with P m;injection m with m _;dsimp only;subst P m;have hR:=hF.toRight;have hpos:=hR.pos;have Y:=hF.jY;have Q:=(@ye p).1.1 hP.w;have hmk:=gM (Q 0 az);unfold Mm;have o:=o2.frame O;have ag:=o.get 4 rfl;refine o.bZ (cs':=[I g.n,vx,vy,va]) 0 rfl rfl rfl (o.bZ (cs':=gw p dv) 1 rfl rfl rfl ?_);have HR:qL h4 (.agg #[I g.n,vx,vy,va]) g:=⟨vx,vy,va,rfl,aoK o (i:=2) rfl⟩;refine YF (p:=p) hF.mid HR hP.w (o.vw 3 rfl) (by have :=hP.d1;omega) hP.d2 λx r tv cv fv h5 R hx hN hT hC=> ?_;have o:=o.more R;obtain⟨tm,cm,H,S,hc0⟩:=apP hF hP.w hP.d2 hx hN hT hC;simp only[cC,cB];refine Zd ?_;rw[aO];simp only[dM,dW,aO];refine apO hF H λy r' ki kj sy h6 A U=> ?_;have o:=o.more A;have B:=H.more A;rw[ij];refine⟨az,o.load 4 rfl rfl ?_⟩;rw[fG,bK aa aa];simp only[aU,bE];refine o.load 0 rfl rfl ?_;rw[nR];refine⟨aa,?_⟩;obtain⟨a0,rfl⟩:=iX C.1;rw[show((a0:Int)).tmod (g.n:Int)=((a0%g.n:Nat):Int)from rfl];have hs:a0%g.n<g.n:=rD _ aa;generalize a0%g.n=s at hs;rw[ij];refine⟨az,o.load 4 rfl rfl ?_⟩;rw[fG,bK aa aa];refine o.load 0 rfl rfl ?_;rw[nR];refine⟨aa,?_⟩;obtain⟨a1,rfl⟩:=iX D.1;rw[show((a1:Int)).tmod (g.n:Int)=((a1%g.n:Nat):Int)from rfl];have ht:a1%g.n<g.n:=rD _ aa;generalize a1%g.n=t at ht;simp only[bD,aU,bE];refine B.toP.ld rfl (Ai hR B.n λsd sa so h7 f=>WT ?_);have e1:(g.cU (s:Int))=g.from s:=by unfold G.cU;rw[aW ⟨aa,aa⟩];rfl
  rw[e1]at f;have T1:=(gj hR (s:=s) hs).ls;have hv:=f.vw 0 rfl;have o:=o.more f.ext;have j:=U.more f.ext;simp only[dM,dW,aO];refine hv.len (o.load 0 rfl rfl ?_);rw[T1.len,fe,iK,aO];refine YU (Own.start h7) hR j.toP λw h8 k=> ?_;have o:=o.more k.ext;have q:isNil ki=decide (p.marks=0):=by rw[j.ZD,S]
  have hn2:isNil kj=decide (p.kind=0):=by rw[j.JT,hc0]
  have fin:zT prog w (.int .i8 ac) (I s) (I t) sd (ptr y) K (I (sH (isNil ki) (isNil kj):Nat)) h8:=by
   unfold zT;have V:=hv.more k.ext;refine bV (pg ki kj).length (λi y h'=>y.1=I i/\Ext h8 h') ⟨rfl,.refl _ _⟩ ?_;rintro i ⟨z,⟨⟩⟩ h9 Z hi ⟨hz,a⟩ hZ;dsimp only at hz hZ |-;subst hz;unfold Ml;have u:=(k.vw 0 rfl).more a;refine u.len ?_;rw[dr,bC,bA];refine⟨λhlt=> ?_,λ_=>u.len ?_⟩
   .have hlt:i<(pg ki kj).length:=aa;have hm:=gL.1 (cu hlt);have h6:=jw.1 hm.1;refine u.Im (by rw[dr];exact hlt) ?_;rw[show(nI (pg ki kj))[i]'(by rw[dr];exact hlt)=(((pg ki kj)[i]:Nat):Int) by simp[nI]];rw[fG,bK aa aa];refine cE (cs':=aqF (pg ki kj)[i] s t ac) (by intro p hp;simp at hp;rcases hp with rfl|rfl|rfl|rfl<;>rfl) rfl rfl ?_;refine(V.more a).Im (by rw[T1.len];exact ht) ?_;rw[jc];refine aoJ hF ((j.more k.ext).more a).toP h6 hm.2 hs ht λh10 W=> ?_;have :=rG (iV ki kj) (List.range 6);rw[gd]at this;have ah:(pg ki kj).length<=6:=this;rw[bP,cz,aO,bw,wI i aa];exact hZ (_,()) h10 hlt ⟨rfl,a.trans W λ_ h _=>h⟩
   .rw[dr,apQ,cF,iJ];exact hK _ ((o.more a).ext)
  have Ci:∀n:Nat,n<=4->(n=2+(if decide (p.marks=0)then 0 else 2))->Ct prog (ptr b) w (.int .i8 ac) (I s) (I t) sd (ptr y) K (I n) h8:=λn ai hn=>by
   unfold Ct;simp only[aU,bE];refine o.load 1 rfl rfl ?_;rw[fe];by_cases hk:p.kind=0
   .rw[show(p.kind != 0)=false by rw[hk];rfl,aO];have :sH (isNil ki) (isNil kj)=n:=by rw[q,hn2,hn];unfold sH;rw[bT hk];simp
    rw[this]at fin;exact fin
   .rw[show(p.kind != 0)=true by simpa using hk,bF,bw,bK aa aa];refine o.load 1 rfl rfl ?_;rw[akS];by_cases hm:p.marks=0
    .rw[bR aa,aO];have :sH (isNil ki) (isNil kj)=n+1:=by rw[q,hn2,hn];unfold sH;rw[bR hk,bT hm];simp
     rw[this]at fin;exact fin
    .rw[bT aa,bF,bw,bK aa aa];have :sH (isNil ki) (isNil kj)=n+1+1:=by rw[q,hn2,hn];unfold sH;rw[bR hk,bR hm];simp
     rw[this]at fin;exact fin
  refine o.load 1 rfl rfl ?_;rw[akS];by_cases hm:p.marks=0
  .rw[bR aa,aO];exact Ci 2 az (by rw[bT hm];rfl)
  .rw[bT aa,bF,bw,bK az az];exact Ci 4 az (by rw[bR hm];rfl)
end
end Go.Proofs.YtacopgnplajifaaGreatDoor
