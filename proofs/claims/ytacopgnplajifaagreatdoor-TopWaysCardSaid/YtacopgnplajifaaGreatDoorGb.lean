/- Lemmas on the way to the law of this seat, joined. They have no conditions of their own. -/
import Derived.Test.YtacopgnplajifaaGreatDoorGa
set_option linter.unusedVariables false
set_option linter.unusedSimpArgs false
set_option linter.unusedSectionVars false
set_option linter.defProp false
set_option maxRecDepth 100000

namespace Go.Proofs.YtacopgnplajifaaGreatDoor
open Go Go.Mh Tryz
variable{h:af}{K:KT}{q r s t u v w x:Value}(P:Program)(a b c d e f g i j:Value)(Z:KT)(k l m n o p:Value)(y:af)(z:KT)
set_option maxHeartbeats 0
def aiy(P:Program)(c w0 many1 e:Value)(Z:KT)(d a:Value)(b:af)(f:Value->KT):Prop:=aq .lss a (I 8) λg=>aA g (cJ .u8 d λi=>b9 1 8 c a λj=>aD 1 j i b λu k=>aq .shr d (.int .u64 8) λl=>aq .add a (I 1) λm=>f l m k) (aI w0 λn=>au 0 n λo=>ag b o λp=>pP 1 8 c none (some many1) none λq=>uY 5 1 1 [.int .u8 0] p q b λr s=>aI w0 λt=>au 0 t λv=>aD 1 v r s λy w=>aq .add e (I 1) λx=>Z x w)
def aiz:=aq .lss k a λe=>aA e (aY 1 b k λf=>ag y f λg=>aB 473 (.agg #[.int .u8 0,.int .u8 0,.int .u8 0,.int .u8 0,.int .u8 0,.int .u8 0,.int .u8 0,.int .u8 0]) y λi j=>cJ .u64 g λl=>bI (σ:=bt [9,21]) (λx hh m=>aiy P i c d k z x.1 x.2.1 hh (λa0 n hz=>m (a0,(n,())) hz)) (l,(I 0,())) j) (Z (.tuple #[]) y)
def aiA:=bL false .ptr a (.pointer none) λd=>aA d (z (.tuple #[]) y) (bB c λe=>bI (σ:=bt [15]) (λx hh f=>aiz P e c a b z x.1 hh (λa0 hz=>f (a0,()) hz)) (I 0,()) y)
def aiB(H:aiA prog q r s h K):aF prog 356 #[q,r,s] h K:=aG H func356 [(3,[15]),(12,[9,21])]
def UG:=aq .lss k a λo=>aA o (ag y b λp=>aI p λq=>au 0 q λr=>ag y r λs=>ag y b λj=>aI j λt=>au 0 t λl=>ag y l λm=>ag y b λe=>aI e λu=>au 0 u λf=>ag y f λg=>ah P 166 [s] y λv d=>(ag d b λw=>w=j)/\(ag d l λx=>x=m)/\(ag d b λA=>A=e)/\(ag d f λB=>B=g)/\(cJ .i64 v λC=>ah P 358 [m] d λD i=>(ag i b λE=>E=e)/\(ag i f λF=>F=g)/\(ah P 271 [g] i λG H=>aV [I 0,.int .u64 0,.int .u32 0] [(0,1,C),(1,1,D),(2,1,G)] λJ=>aX P c [J].toArray H λL n=>bY .not L λM=>aA M (Z (.tuple #[]) n) (aq .add k (I 1) λN=>z N n)))) (Z (.tuple #[]) y)
def UH:=ag y b λe=>aI e λf=>au 0 f λg=>ag y g λi=>ah P 275 [i,I 6] y λj k=>aq .eql j (.string ⟨#[77,73,76,69,49,1]⟩) λl=>ah P 272 [l,I 23] k λv c=>ag c b λm=>aI m λn=>au 0 n λo=>ag c o λp=>ah P 166 [p] c λq r=>cJ .i64 q λd=>aq .leq d (I 16) λs=>ah P 272 [s,I 23] r λw t=>bI (σ:=bt [21]) (λx hh u=>UG P d b a z x.1 hh (λa0 hz=>u (a0,()) hz)) (I 0,()) t
def aiC(H:UH prog q r h K):aF prog 357 #[q,r] h K:=aG H func357 [(4,[21])]
def UI:=ah P 391 [a,I 8] y λb c=>z b c
def aiD(H:UI prog q h K):aF prog 358 #[q] h K:=aG H func358
def aiE(P:Program)(d e:Value)(K:KT)(b a:Value)(c:af)(Z:Value->KT):Prop:=aq .lss a d λf=>aA f (mT e a λg=>cJ .u64 g λi=>aq .mul (I 8) a λj=>aq .shl i j λk=>aq .or b k λl=>aq .add a (I 1) λm=>Z l m c) (cJ .u32 b λn=>K n c)
def aiF:=ah P 360 [a,b] y λc d=>fQ c λe=>bI (σ:=bt [6,13]) (λx hh f=>aiE P e c z x.1 x.2.1 hh (λa0 g hz=>f (a0,(g,())) hz)) (.int .u64 0,(I 0,())) d
def aiG(H:aiF prog q r h K):aF prog 359 #[q,r] h K:=aG H func359 [(5,[6,13])]
def UJ(P:Program)(K:KT)(a:af):Prop:=K (.string ⟨#[]⟩) a
def UK:=bL false .ptr a (.pointer none) λc=>aA c (UJ P z y) (aI a λd=>au 2 d λe=>ag y e λf=>bL true .ptr f (.pointer none) λg=>aA g (UJ P z y) (aq .lss b (I 0) λi=>aA i (aI a λj=>au 1 j λk=>ag y k λl=>aV [I 0,I 0,I 0,I 0] [(0,1,I 2),(2,1,l)] λm=>aB 120 m y λn o=>aI a λp=>au 2 p λq=>aD 1 q n o λu r=>z (.string ⟨#[]⟩) r) (aI a λs=>au 0 s λt=>ag y t λv=>fQ v λw=>aI a λx=>au 1 x λA=>ag y A λB=>aq .sub w B λC=>aq .gtr b C λD=>aA D (aI a λE=>au 1 E λF=>ag y F λG=>aV [I 0,I 0,I 0,I 0] [(0,1,I 3),(2,1,G)] λH=>aB 120 H y λJ L=>aI a λM=>au 2 M λN=>aD 1 N J L λax O=>z (.string ⟨#[]⟩) O) (aI a λQ=>au 0 Q λR=>ag y R λS=>aI a λT=>au 1 T λU=>ag y U λV=>aI a λW=>au 1 W λX=>ag y X λY=>aq .add Y b λZ=>uz S (some V) (some Z) λaa=>aI a λaf=>au 1 af λah=>ag y ah λai=>aq .add ai b λaj=>aI a λak=>au 1 ak λan=>aD 1 an aj y λay av=>z aa av))))
def aiH(H:UK prog q r h K):aF prog 360 #[q,r] h K:=aG H func360
def UL:=aq .lss k a λe=>aA e (aY 1 b k λf=>ag y f λg=>aX P c [g].toArray y λi d=>aA i (Z k d) (aq .add k (I 1) λj=>z j d)) (Z (I (-1)) y)
def UM:=bB a λc=>bI (σ:=bt [8]) (λx hh d=>UL P c a b z x.1 hh (λa0 hz=>d (a0,()) hz)) (I 0,()) y
def aiI(H:UM prog q r h K):aF prog 361 #[q,r] h K:=aG H func361 [(3,[8])]
def UN:=aq .lss k a λe=>aA e (aY 1 b k λf=>ag y f λg=>aX P c [g].toArray y λi d=>aA i (Z k d) (aq .add k (I 1) λj=>z j d)) (Z (I (-1)) y)
def UO:=bB a λc=>bI (σ:=bt [8]) (λx hh d=>UN P c a b z x.1 hh (λa0 hz=>d (a0,()) hz)) (I 0,()) y
def aiJ(H:UO prog q r h K):aF prog 362 #[q,r] h K:=aG H func362 [(3,[8])]
def UP:=ag y a λe=>aq .mul (I 4) e λf=>aq .add f (I 4) λg=>aq .leq k g λi=>aA i (ag y b λj=>aI j λl=>au 0 l λm=>ag y m λn=>bB n λo=>aq .lss k o λp=>aA p (aX P c [k].toArray y λq d=>bY .not q λr=>aA r (Z (.tuple #[]) d) (aq .add k (I 1) λs=>z s d)) (Z (.tuple #[]) y)) (Z (.tuple #[]) y)
def UQ:=ag y b λd=>aq .mul (I 4) d λe=>aq .add e (I 1) λf=>bI (σ:=bt [4]) (λx hh g=>UP P b c a z x.1 hh (λa0 hz=>g (a0,()) hz)) (f,()) y
def aiK(H:UQ prog q r s h K):aF prog 363 #[q,r,s] h K:=aG H func363 [(1,[4])]
def aiL(P:Program)(K:KT)(a:Value)(b:af):Prop:=K a b
def UR:=akV (σ:=bt [2]) (λJ=>aI a λf=>au 3 f λg=>ag y g λi=>ah P 102 [i] y λj b=>bB j λk=>aq .gtr k (I 0) λl=>aA l (aI a λm=>au 3 m λn=>ag b n λo=>aI a λp=>au 2 p λc=>ag b c λd=>ah P 101 [o] b λq e=>(ag e c λr=>r=d)/\(ah P 36 [d] e λs t=>aq .eql q s λu=>J (u,()) t)) (J (.bool false,()) b)) (λx hh=>aiL P z x.1 hh)
def aiM(H:UR prog q h K):aF prog 364 #[q] h K:=aG H func364 [(1,[2])]
def US(P:Program)(a b:Value)(h:af)(K:KT):Prop:=aB 50 a h λc d=>aB 3 b d λe f=>K (.func (.func 392) #[] #[c,e]) f
def aiN(H:US prog q r h K):aF prog 365 #[q,r] h K:=aG H func365
def UT:=aq .geq k (I 0) λj=>aA j (aX P a [k].toArray y λl e=>aA l (ag e b λm=>aI m λn=>au 0 n λo=>ag e o λp=>ah P 180 [p,k] e λf q=>bp f 0 λr=>bp f 1 λF=>aB 59 (.agg #[I 0,I 0,I 0]) q λg s=>aD 3 g r s λu i=>au 0 g λt=>ag i t λv=>aD 1 c v i λG d=>ag d b λw=>aI w λx=>au 3 x λA=>ag d A λB=>ag d c λC=>aY 1 B C λD=>ag d D λE=>z E d) (Z (.tuple #[]) e)) (Z (.tuple #[]) y)
def UU:=ag y b λd=>aI d λe=>au 3 e λf=>ag y f λg=>ag y c λi=>aY 1 g i λj=>ag y j λk=>bI (σ:=bt [4]) (λx hh l=>UT P a b c z x.1 hh (λa0 hz=>l (a0,()) hz)) (k,()) y
def aiO(H:UU prog q r s h K):aF prog 366 #[q,r,s] h K:=aG H func366 [(1,[4])]
def UW:=bB a λc=>ah P 394 [a,c,b] y λe d=>z (.tuple #[]) d
def aiP(H:UW prog q r h K):aF prog 367 #[q,r] h K:=aG H func367
def Hy:=aX P a [c,d].toArray y λf g=>aX P a [c,e].toArray g λi j=>aX P b [f,i].toArray j λk l=>z k l
def UX(H:Hy prog q r s t u h K):aF prog 368 #[q,r,s,t,u] h K:=aG H func368
def UY:=ah P 374 [a] y λc g=>ah P 374 [b] g λd i=>ah P 373 [d] i λj e=>bY .not j λk=>aA k (z (I 0) e) (ah P 373 [c] e λl f=>bY .not l λm=>aA m (z (I 72057594037927936) f) (aq .sub c d λn=>ah P 374 [n] f λo p=>z o p))
def aiQ(H:UY prog q r h K):aF prog 369 #[q,r] h K:=aG H func369
def UZ:=ah P 369 [b,a] y λc d=>z c d
def aiR(H:UZ prog q r h K):aF prog 370 #[q,r] h K:=aG H func370
def U0:=aq .lss k a λe=>aA e (ag y b λf=>aX P f [k].toArray y λg i=>aX P c [g].toArray i λj d=>bY .not j λl=>aA l (Z (.tuple #[]) d) (aq .add k (I 1) λm=>z m d)) (Z (.tuple #[]) y)
def U1:=ag y b λd=>ah P 101 [d] y λe f=>bI (σ:=bt [7]) (λx hh g=>U0 P e c a z x.1 hh (λa0 hz=>g (a0,()) hz)) (I 0,()) f
def aiS(H:U1 prog q r s h K):aF prog 371 #[q,r,s] h K:=aG H func371 [(1,[7])]
def U2(P:Program)(b:af)(s2:Value)(L:Loop)(c:Value)(d:af)(R:Exit->af->Prop):Prop:=iZ (b.size+1) L d λa=>ag a s2 λe=>uX 2 (bO [I 0] 1) [(0,1,c)] 1 a λf g=>uY 2 1 8 [I 0] e f g λi j=>aD 1 s2 i j λu k=>R .normal k
def U3:=aB 29 a y λs2 c=>gO P b [7] (c.size+1) (c.push (.deferred (some []))) (λL x hh R=>U2 P c s2 L x.1 hh R) (λd=>ag d s2 λe=>de (c.size:: []) d λf=>z e f) (λg=>de (c.size:: []) g λi=>z aE i) []
def aiT(H:U3 prog q r h K):aF prog 372 #[q,r] h K:=aG H func372
def U4:=ah P 374 [a] y λb c=>aq .lss b (I 72057594037927936) λd=>z d c
def aiU(H:U4 prog q h K):aF prog 373 #[q] h K:=aG H func373
def Hz:=ah P 379 [I 0,I 72057594037927936] y λb c=>aX P b [a].toArray c λd e=>z d e
def U5(H:Hz prog q h K):aF prog 374 #[q] h K:=aG H func374
def U6:=aq .lss k a λg=>aA g (aY 6 b k λi=>bq 6 y i λj=>aB 341 (.agg #[I 0,I 0,I 0,I 0,I 0,I 0]) y λd l=>aD 6 d j l λu e=>bq 6 e d λm=>aX P c [m].toArray e λn f=>bY .not n λo=>aA o (Z (.tuple #[]) f) (aq .add k (I 1) λp=>z p f)) (Z (.tuple #[]) y)
def U7:=ag y b λc=>bB c λd=>bI (σ:=bt [7]) (λx hh e=>U6 P d c a z x.1 hh (λa0 hz=>e (a0,()) hz)) (I 0,()) y
def aiV(H:U7 prog q r h K):aF prog 375 #[q,r] h K:=aG H func375 [(1,[7])]
def U8(d:Value)(e:Loop)(l f:Value)(g:af)(a:Exit->af->Prop):=iZ (y.size+1) e g λb=>ag b d λi=>aX P i [f].toArray b λj c=>bY .not j λk=>aA k (a .ret c) (a .normal c)
def U9:=aB 105 a y λe d=>ag d b λf=>ah P 377 [f] d λg c=>gO P g [7,8] (c.size+1) (c.push (.deferred (some []))) (λL x hh R=>U8 P c e L x.1 x.2.1 hh R) (λi=>de (c.size:: []) i λj=>z (.tuple #[]) j) (λk=>de (c.size:: []) k λl=>z (.tuple #[]) l) []
def aiW(H:U9 prog q r h K):aF prog 376 #[q,r] h K:=aG H func376
def Va(P:Program)(s0:Value)(h:af)(K:KT):Prop:=aB 43 s0 h λa b=>K (.func (.func 395) #[] #[a]) b
def aiX(H:Va prog q h K):aF prog 377 #[q] h K:=aG H func377
def HB(d:Value->KT):=aq .lss l a λe=>aA e (aY 1 b l λf=>ag y f λg=>aX P c [g].toArray y λi j=>aq .add k i λm=>aX P c [m].toArray j λn o=>aq .add l (I 1) λp=>d n p o) (Z k y)
def HC:=bB b λc=>bI (σ:=bt [4,9]) (λx hh d=>HB P c b a z x.1 x.2.1 hh (λa0 e hz=>d (a0,(e,())) hz)) (I 0,(I 0,())) y
def Vb(H:HC prog q r h K):aF prog 378 #[q,r] h K:=aG H func378 [(3,[4,9])]
def HD(P:Program)(a b:Value)(h:af)(K:KT):Prop:=aB 2 a h λc d=>aB 2 b d λe f=>K (.func (.func 396) #[] #[c,e]) f
def Vc(H:HD prog q r h K):aF prog 379 #[q,r] h K:=aG H func379
def aiY(P:Program)(a b:Value)(h:af)(K:KT):Prop:=K a h
def aiZ(H:aiY prog q r h K):aF prog 380 #[q,r] h K:=aG H func380
def ai0(P:Program)(b a:Value)(h:af)(K:KT):Prop:=K a h
def ai1(H:ai0 prog q r h K):aF prog 381 #[q,r] h K:=aG H func381
def Vd(P:Program)(a b:Value)(h:af)(K:KT):Prop:=aq .add a b λc=>K c h
def ai2(H:Vd prog q r h K):aF prog 382 #[q,r] h K:=aG H func382
def Ve(P:Program)(a b:Value)(h:af)(K:KT):Prop:=aq .sub a b λc=>K c h
def ai3(H:Ve prog q r h K):aF prog 383 #[q,r] h K:=aG H func383
def ai4(i:Value->Value->Value->Value->KT)(g q r s t:Value)(j:af):=aA t (ah P 403 [a,b,c,d,e] j λu v=>i u c g q r v) (ah P 404 [a,b,c,d,e] j λk l=>bp k 0 λf=>bp k 1 λm=>aq .sub f b λn=>aq .sub c f λo=>aq .quo s (I 8) λp=>aq .lss n o λw=>aA w (aq .geq n p λx=>ah P 384 [a,b,f,g,e] l λD y=>aq .add f (I 1) λz=>i z c g x m y) (aq .geq o p λA=>aq .add f (I 1) λB=>ah P 384 [a,B,c,g,e] l λE C=>i b f g A m C))
def C8(g:Value->Value->Value->Value->KT)(i j k l:Value)(f:af):=akV (σ:=bt [97]) (λJ=>aq .gtr a (I 0) λm=>aA m (aq .sub a (I 1) λn=>aY 1 b n λo=>ag f o λp=>aY 1 b c λq=>ag f q λr=>aX P d [p,r].toArray f λs t=>aq .lss s (I 0) λu=>bY .not u λv=>J (v,()) t) (J (.bool false,()) f)) (λx hh=>ai4 P b a e c d g i j k l x.1 hh)
def Vf(g:Value->Value->Value->Value->KT)(i j k n:Value)(l:af):=aA a (aA b (aq .eql n (I 1) λo=>aA o (ah P 402 [c,d,e,f] l λp m=>aA p (Z (.tuple #[]) m) (C8 P d c k f e g i a b j m)) (C8 P d c k f e g i a b j l)) (C8 P d c k f e g i a b j l)) (C8 P d c k f e g i a b j l)
def Vg(g:Value->Value->Value->Value->KT)(i j:Value)(o:af):=ah P 400 [a,b,c,d] o λk l=>bp k 0 λm=>bp k 1 λn=>aq .eql n (I 2) λp=>aA p (ah P 401 [a,b,c,d] l λu q=>aq .sub c (I 1) λr=>aq .sub m b λs=>aq .sub r s λt=>Vf P e f a b c d Z g j i t (I 1) q) (Vf P e f a b c d Z g j i m n l)
def Vh(d:Value->Value->Value->Value->KT):=aq .sub l k λc=>aq .leq c (I 12) λe=>aA e (ah P 397 [a,k,l,b] y λr f=>Z (.tuple #[]) f) (aq .eql m (I 0) λg=>aA g (ah P 398 [a,k,l,b] y λs i=>Z (.tuple #[]) i) (bY .not n λj=>aA j (ah P 399 [a,k,l,b] y λt p=>aq .sub m (I 1) λq=>Vg P a k l b n o Z d c q p) (Vg P a k l b n o Z d c m y)))
def Vi:=bI (σ:=bt [1,2,3,10,11]) (λx hh f=>Vh P a e z x.1 x.2.1 x.2.2.1 x.2.2.2.1 x.2.2.2.2.1 hh (λa0 b g a3 i hz=>f (a0,(b,(g,(a3,(i,()))))) hz)) (b,(c,(d,(.bool true,(.bool true,()))))) y
def ai5(H:Vi prog q r s t u h K):aF prog 384 #[q,r,s,t,u] h K:=aG H func384 [(2,[1,2,3,10,11]),(22,[97])]
def Vj:=ah P 406 [a] y λb c=>z b c
def ai6(H:Vj prog q h K):aF prog 385 #[q] h K:=aG H func385
def C9(P:Program)(a:Value)(Z:KT)(b:af):Prop:=aq .add a (I 1) λc=>Z c b
def Vk:=aq .lss k a λf=>aA f (ag y b λg=>aX P g [k].toArray y λi d=>aA i (aX P c [k].toArray d λj e=>bY .not j λl=>aA l (Z (.tuple #[]) e) (C9 P k z e)) (C9 P k z d)) (Z (.tuple #[]) y)
def Vl:=ag y b λd=>bI (σ:=bt [6]) (λx hh e=>Vk P d c a z x.1 hh (λa0 hz=>e (a0,()) hz)) (I 0,()) y
def ai7(H:Vl prog q r s h K):aF prog 386 #[q,r,s] h K:=aG H func386 [(1,[6])]
def Vm:=ag y b λj=>ah P 180 [j,a] y λg k=>bp g 0 λl=>bp g 1 λH=>aB 59 (.agg #[I 0,I 0,I 0]) k λf m=>aD 3 f l m λu d=>au 0 c λn=>ag d n λo=>au 1 f λp=>ag d p λq=>aY 1 o q λr=>ag d r λs=>au 2 f λt=>ag d t λv=>ah P 388 [s,v] d λi w=>ah P 373 [i] w λx e=>aA x (au 0 c λA=>ag e A λB=>au 0 f λC=>ag e C λD=>aY 1 B D λE=>ag e E λF=>aq .eql i F λG=>z G e) (z (.bool false) e)
def ai8(H:Vm prog q r s h K):aF prog 387 #[q,r,s] h K:=aG H func387
def Vn:=uX 2 (bO [I 0] 2) [(0,1,a),(1,1,b)] 2 y λc d=>ah P 378 [(.func (.func 374) #[] #[]),c] d λe f=>z e f
def ai9(H:Vn prog q r h K):aF prog 388 #[q,r] h K:=aG H func388
def Vo(P:Program)(l0 a:Value)(Z:KT)(r2 b:Value)(c:af)(d:Value->KT):Prop:=aq .lss b (I 4) λe=>aA e (aq .shr r2 (.int .u64 1) λf=>aq .and r2 (.int .u32 1) λg=>bY .neg g λi=>aq .and (.int .u32 3988292384) i λj=>aq .xor f j λk=>aq .add b (I 1) λl=>d k l c) (b9 1 16 l0 a λm=>aD 1 m r2 c λu n=>aq .add a (I 1) λo=>Z o n)
def Vp:=aq .lss k (I 16) λc=>aA c (cJ .u32 k λd=>bI (σ:=bt [2,8]) (λx hh e=>Vo P a k z x.1 x.2.1 hh (λa0 f hz=>e (a0,(f,())) hz)) (d,(I 0,())) y) (bq 16 y a λg=>aD 16 a g y λi b=>bq 16 b a λres=>Z res b)
def Vq:=aB 493 (.agg #[.int .u32 0,.int .u32 0,.int .u32 0,.int .u32 0,.int .u32 0,.int .u32 0,.int .u32 0,.int .u32 0,.int .u32 0,.int .u32 0,.int .u32 0,.int .u32 0,.int .u32 0,.int .u32 0,.int .u32 0,.int .u32 0]) y λl0 a=>bI (σ:=bt [3]) (λx hh b=>Vp P l0 z x.1 hh (λa0 hz=>b (a0,()) hz)) (I 0,()) a
def aja(H:Vq prog h K):aF prog 389 #[] h K:=aG H func389 [(3,[3]),(11,[2,8])]
def Vr(P:Program)(g a s0 f:Value)(K:KT)(e:Value)(b:af)(Z:KT):Prop:=aq .lss e g λi=>aA i (ag b a λj=>mT s0 e λk=>cJ .u32 k λl=>aq .xor j l λm=>aD 1 a m b λu c=>ag c a λn=>aq .shr n (.int .u64 4) λo=>ag c a λp=>aq .and p (.int .u32 15) λq=>b9 1 16 f q λr=>ag c r λs=>aq .xor o s λt=>aD 1 a t c λF d=>ag d a λv=>aq .shr v (.int .u64 4) λw=>ag d a λx=>aq .and x (.int .u32 15) λy=>b9 1 16 f y λz=>ag d z λA=>aq .xor w A λB=>aD 1 a B d λG C=>aq .add e (I 1) λD=>Z D C) (ag b a λE=>K E b)
def Vs:=fQ a λd=>bI (σ:=bt [8]) (λx hh e=>Vr P d b a c z x.1 hh (λa0 hz=>e (a0,()) hz)) (I 0,()) y
def ajb(H:Vs prog q r s h K):aF prog 390 #[q,r,s] h K:=aG H func390 [(3,[8])]
def ajc(P:Program)(d e:Value)(K:KT)(b a:Value)(c:af)(Z:Value->KT):Prop:=aq .lss a d λf=>aA f (mT e a λg=>cJ .u64 g λi=>aq .mul (I 8) a λj=>aq .shl i j λk=>aq .or b k λl=>aq .add a (I 1) λm=>Z l m c) (K b c)
def ajd:=ah P 360 [a,b] y λc d=>fQ c λe=>bI (σ:=bt [6,13]) (λx hh f=>ajc P e c z x.1 x.2.1 hh (λa0 g hz=>f (a0,(g,())) hz)) (.int .u64 0,(I 0,())) d
def aje(H:ajd prog q r h K):aF prog 391 #[q,r] h K:=aG H func391 [(5,[6,13])]
def Da(P:Program)(a:Value)(Z:KT)(b:af):Prop:=aq .add a (I 1) λc=>Z c b
def Vt:=aq .lss k a λg=>aA g (ag y b λi=>ag y c λj=>ah P 393 [i,j,k] y λl e=>aA l (aX P d [k].toArray e λm f=>bY .not m λn=>aA n (Z (.tuple #[]) f) (Da P k z f)) (Da P k z e)) (Z (.tuple #[]) y)
def Vu:=ag y b λd=>ah P 188 [d] y λe f=>bI (σ:=bt [7]) (λx hh g=>Vt P e b c a z x.1 hh (λa0 hz=>g (a0,()) hz)) (I 0,()) f
def ajf(H:Vu prog q r s h K):aF prog 392 #[q,r,s] h K:=aG H func392 [(1,[7])]
def Vv:=ah P 145 [a,b,c,(.func (.func 407) #[] #[])] y λd e=>z d e
def ajg(H:Vv prog q r s h K):aF prog 393 #[q,r,s] h K:=aG H func393
def Vx(P:Program)(a:Value)(b:KT)(c:af):Prop:=aq .mul a (I 2) λd=>b d c
def ajh(f:Value->KT):=aq .leq l a λg=>aA g (aq .add k b λi=>ah P 408 [c,k,i,l,d] y λq j=>aq .mul (I 2) b λm=>aq .add l m λn=>f l n j) (aq .add k b λe=>aq .lss e a λo=>aA o (ah P 408 [c,k,e,a,d] y λr p=>Vx P b Z p) (Vx P b Z y))
def Vy:=aq .lss k a λd=>aA d (aq .mul (I 2) k λe=>bI (σ:=bt [7,8]) (λx hh f=>ajh P a k b c z x.1 x.2.1 hh (λa0 g hz=>f (a0,(g,())) hz)) (I 0,(e,())) y) (Z (.tuple #[]) y)
def Vz(d:Value->KT):=aq .leq l a λe=>aA e (ah P 397 [b,k,l,c] y λm f=>aq .add l (I 20) λg=>d l g f) (ah P 397 [b,k,a,c] y λn i=>bI (σ:=bt [6]) (λx hh j=>Vy P a b c Z x.1 hh (λa0 hz=>j (a0,()) hz)) (I 20,()) i)
def VA:=bI (σ:=bt [7,8]) (λx hh d=>Vz P b a c z x.1 x.2.1 hh (λa0 e hz=>d (a0,(e,())) hz)) (I 0,(I 20,())) y
def aji(H:VA prog q r s h K):aF prog 394 #[q,r,s] h K:=aG H func394 [(3,[7,8]),(9,[6]),(14,[7,8])]
def VB:=aq .geq k (I 0) λd=>aA d (ag y a λe=>aY 1 e k λf=>ag y f λg=>aX P b [k,g].toArray y λi c=>bY .not i λj=>aA j (Z (.tuple #[]) c) (aq .sub k (I 1) λl=>z l c)) (Z (.tuple #[]) y)
def VC:=ag y b λc=>bB c λd=>aq .sub d (I 1) λe=>bI (σ:=bt [3]) (λx hh f=>VB P b a z x.1 hh (λa0 hz=>f (a0,()) hz)) (e,()) y
def ajj(H:VC prog q r h K):aF prog 395 #[q,r] h K:=aG H func395 [(1,[3])]
def HF(P:Program)(a b c:Value)(h:af)(K:KT):Prop:=ag h b λd=>jR a d λe=>ag h c λf=>lN e f λg=>K g h
def VD(H:HF prog q r s h K):aF prog 396 #[q,r,s] h K:=aG H func396
def HG(P:Program)(a b:Value)(d:KT)(i8:Value)(Z:KT)(e:Value)(c:af):Prop:=aA e (aq .sub a (I 1) λf=>aq .sub a (I 1) λg=>aY 1 b g λi=>ag c i λj=>aY 1 b a λk=>ag c k λl=>aY 1 b a λm=>aD 1 m j c λu n=>aY 1 b f λo=>aD 1 o l n λs p=>aq .sub a (I 1) λq=>d q p) (aq .add i8 (I 1) λr=>Z r c)
def HH:=akV (σ:=bt [34]) (λJ=>aq .gtr k a λe=>aA e (aY 1 b k λf=>ag y f λg=>aq .sub k (I 1) λi=>aY 1 b i λj=>ag y j λl=>aX P c [g,l].toArray y λm n=>aq .lss m (I 0) λo=>J (o,()) n) (J (.bool false,()) y)) (λx hh=>HG P k b z d Z x.1 hh)
def HI:=aq .lss k a λe=>aA e (bI (σ:=bt [9]) (λx hh f=>HH P b c d k z x.1 hh (λa0 hz=>f (a0,()) hz)) (k,()) y) (Z (.tuple #[]) y)
def HJ:=aq .add b (I 1) λe=>bI (σ:=bt [8]) (λx hh f=>HI P c b a d z x.1 hh (λa0 hz=>f (a0,()) hz)) (e,()) y
def VE(H:HJ prog q r s t h K):aF prog 397 #[q,r,s,t] h K:=aG H func397 [(1,[8]),(6,[9]),(8,[34])]
def HK(P:Program)(K:KT)(a b:Value)(c:af):Prop:=cJ .u8 a λd=>mT (.string ⟨#[0,1,2,2,3,3,3,3,4,4,4,4,4,4,4,4,5,5,5,5,5,5,5,5,5,5,5,5,5,5,5,5,6,6,6,6,6,6,6,6,6,6,6,6,6,6,6,6,6,6,6,6,6,6,6,6,6,6,6,6,6,6,6,6,7,7,7,7,7,7,7,7,7,7,7,7,7,7,7,7,7,7,7,7,7,7,7,7,7,7,7,7,7,7,7,7,7,7,7,7,7,7,7,7,7,7,7,7,7,7,7,7,7,7,7,7,7,7,7,7,7,7,7,7,7,7,7,7,8,8,8,8,8,8,8,8,8,8,8,8,8,8,8,8,8,8,8,8,8,8,8,8,8,8,8,8,8,8,8,8,8,8,8,8,8,8,8,8,8,8,8,8,8,8,8,8,8,8,8,8,8,8,8,8,8,8,8,8,8,8,8,8,8,8,8,8,8,8,8,8,8,8,8,8,8,8,8,8,8,8,8,8,8,8,8,8,8,8,8,8,8,8,8,8,8,8,8,8,8,8,8,8,8,8,8,8,8,8,8,8,8,8,8,8,8,8,8,8,8,8,8,8,8,8,8,8]⟩) d λe=>cJ .i64 e λf=>aq .add b f λg=>K g c
def HN:=aq .geq k (.int .u64 256) λa=>aA a (aq .shr k (.int .u64 8) λb=>aq .add l (I 8) λc=>HK P Z b c y) (HK P Z k l y)
def HO:=aq .geq k (.int .u64 65536) λa=>aA a (aq .shr k (.int .u64 16) λb=>aq .add l (I 16) λc=>HN P Z b c y) (HN P Z k l y)
def VF:=aq .geq a (.int .u64 4294967296) λb=>aA b (aq .shr a (.int .u64 32) λc=>HO P z c (I 32) y) (HO P z a (I 0) y)
def ajk(H:VF prog q h K):aF prog 406 #[q] h K:=aG H func406
variable{h:af}{K:KT}
def VG(P:Program)(a b:Value)(h:af)(K:KT):Prop:=aI a λc=>ag h c λd=>aq .and d b λe=>aq .neq e (.int .u8 0) λf=>K f h
def ajl{a b:Value}(H:VG prog a b h K):aF prog 407 #[a,b] h K:=aG H func407
end Go.Proofs.YtacopgnplajifaaGreatDoor


