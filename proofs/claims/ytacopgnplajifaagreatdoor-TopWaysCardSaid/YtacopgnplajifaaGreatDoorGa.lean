/- Lemmas on the way to the law of this seat, joined. They have no conditions of their own. -/
import Derived.Test.YtacopgnplajifaaGreatDoorMc
import Derived.Test.YtacopgnplajifaaGreatDoorChecked
import Derived.KernelRfl
set_option linter.unusedVariables false
set_option linter.unusedSimpArgs false
set_option linter.unusedSectionVars false
set_option linter.defProp false
set_option maxRecDepth 100000

namespace Go.Proofs.YtacopgnplajifaaGreatDoor
open Go.Mh Tryz in
def aG{S:Prop}(H:S){f:FuncId}{fn:Func}{args:List Value}{h:af}{K:KT}(hf:prog.funcs[f]? =some fn)(l:List (Nat×List Nat):=[])(he:S=compile prog fn.ntmps false (fn.body.getD .skip) (eX (fn.body.getD .skip) 0 l).1 (aqP args 0) [] h (zy prog fn.results.toList K):=by kernel_rfl)(hb:fn.body=some (fn.body.getD .skip):=by kernel_rfl)(a:jQ prog f=true:=by kernel_rfl)(hm:prog.follows .mixedOrders=true:=by kernel_rfl)(hlen:args.length<=fn.ntmps:=by exact iC):aF prog f args.toArray h K:=abV hf hb a hm hlen (Eq.mp he H)
open Go Go.Mh Tryz
variable{h:af}{K:KT}{q r s t u v w x:Value}(P:Program)(a b c d e f g i j:Value)(Z:KT)(k l m n o p:Value)(y:af)(z:KT)
set_option maxHeartbeats 0
def Mj(P:Program)(K:KT)(a:af):Prop:=K (.bool false) a
def Mk(P:Program)(K:KT)(a:af):Prop:=K (.bool false) a
def Ml:=bB a λi=>aq .lss l i λj=>aA j (aY 1 a l λm=>ag y m λn=>cJ .i64 b λo=>aV [I 0,I 0,I 0,I 0] [(0,1,n),(1,1,c),(2,1,d),(3,1,o)] λp=>aY 1 e d λq=>ag y q λr=>ah P 11 [f,p,r] y λs g=>bY .not s λt=>aA t (Z (.bool false) g) (aq .add l (I 1) λu=>z u g)) (bB a λv=>aq .eql v k λw=>Z w y)
def zT:=bI (σ:=bt [17]) (λx hh g=>Ml P a b c d e f Z k x.1 hh (λa0 hz=>g (a0,()) hz)) (I 0,()) y
def Ct:=au 3 a λj=>ag y j λl=>aq .neq l (I 0) λm=>aA m (aq .add k (I 1) λi=>au 0 a λn=>ag y n λo=>aq .gtr o (I 0) λp=>aA p (aq .add i (I 1) λq=>zT P b c d e f g Z q y) (zT P b c d e f g Z i y)) (zT P b c d e f g Z k y)
def Mm:=bq 4 y m λq=>bq 5 y n λr=>ah P 7 [q,r] y λj d=>bp j 0 λe=>bp j 1 λs=>bL true .iface s .nilIface λt=>aA t (Mj P Z d) (bL false .ptr e (.pointer none) λu=>aA u (Mj P Z d) (ah P 8 [e] d λb a=>b9 1 2 k (I 0) λv=>ag a v λw=>cJ .i64 w λx=>au 0 m λz=>ag a z λA=>aq .rem x A λf=>b9 1 2 k (I 1) λB=>ag a B λC=>cJ .i64 C λD=>au 0 m λE=>ag a E λF=>aq .rem D F λo=>aI e λG=>au 0 G λH=>ag a H λJ=>ah P 9 [J,f] a λL c=>oD 0 L λg=>bL false .ptr b (.pointer none) λM=>aA M (Mk P Z c) (bB g λN=>au 0 m λO=>ag c O λQ=>aq .neq N Q λR=>aA R (Mk P Z c) (ah P 10 [b] c λp i=>au 0 n λS=>ag i S λT=>aq .gtr T (I 0) λU=>aA U (aq .add (I 2) (I 2) λV=>Ct P n p l f o g b Z V i) (Ct P n p l f o g b Z (I 2) i)))))
def Mn:=aB 25 a y λe W=>aB 26 b W λX Y=>ah P 4 [] Y λZ f=>bY .not Z λaa=>aA aa (z (.bool false) f) (akV (σ:=bt [7,8]) (λJ=>bq 6 f e λk=>bq 6 f e λd=>(ah P 5 [k] f λg l=>(bq 6 l e λaf=>af=d)/\((ah P 6 [d] l λq r=>(aB 32 (.agg #[I 0,aE,aE,aE]) r λs ag=>aB 35 (.agg #[I 0,I 0,aE,I 0,I 0]) ag λt ai=>aD 4 s g ai λu aj=>aD 5 t q aj λbT ak=>J (s,(t,())) ak)/\(aB 35 (.agg #[I 0,I 0,aE,I 0,I 0]) r λv an=>aB 32 (.agg #[I 0,aE,aE,aE]) an λw aq=>aD 4 w g aq λbU au=>aD 5 v q au λbV av=>J (w,(v,())) av))/\(aB 32 (.agg #[I 0,aE,aE,aE]) l λm A=>(ah P 6 [d] A λax ay=>aB 35 (.agg #[I 0,I 0,aE,I 0,I 0]) ay λB az=>aD 4 m g az λbW aC=>aD 5 B ax aC λbX aF=>J (m,(B,())) aF)/\(aB 35 (.agg #[I 0,I 0,aE,I 0,I 0]) A λC aG=>ah P 6 [d] aG λaH aI=>aD 4 m g aI λbZ aJ=>aD 5 C aH aJ λb5 aK=>J (m,(C,())) aK))/\(aB 35 (.agg #[I 0,I 0,aE,I 0,I 0]) l λn D=>(ah P 6 [d] D λaL aM=>aB 32 (.agg #[I 0,aE,aE,aE]) aM λE aN=>aD 4 E g aN λb6 aO=>aD 5 n aL aO λb7 aP=>J (E,(n,())) aP)/\(aB 32 (.agg #[I 0,aE,aE,aE]) D λF aQ=>ah P 6 [d] aQ λaR aS=>aD 4 F g aS λb8 aT=>aD 5 n aR aT λb9 aU=>J (F,(n,())) aU))))/\(aB 32 (.agg #[I 0,aE,aE,aE]) f λi G=>(ah P 5 [k] G λH o=>(bq 6 o e λaV=>aV=d)/\((ah P 6 [d] o λaW aX=>aB 35 (.agg #[I 0,I 0,aE,I 0,I 0]) aX λL aY=>aD 4 i H aY λcc aZ=>aD 5 L aW aZ λcg bf=>J (i,(L,())) bf)/\(aB 35 (.agg #[I 0,I 0,aE,I 0,I 0]) o λM bg=>ah P 6 [d] bg λbh bk=>aD 4 i H bk λcj bl=>aD 5 M bh bl λck bn=>J (i,(M,())) bn)))/\(aB 35 (.agg #[I 0,I 0,aE,I 0,I 0]) G λN bp=>ah P 5 [k] bp λbr O=>(bq 6 O e λbu=>bu=d)/\(ah P 6 [d] O λbw bx=>aD 4 i br bx λcm bz=>aD 5 N bw bz λcn bA=>J (i,(N,())) bA)))/\(aB 35 (.agg #[I 0,I 0,aE,I 0,I 0]) f λj Q=>(ah P 5 [k] Q λR p=>(bq 6 p e λbB=>bB=d)/\((ah P 6 [d] p λbC bD=>aB 32 (.agg #[I 0,aE,aE,aE]) bD λS bE=>aD 4 S R bE λcq bF=>aD 5 j bC bF λcr bG=>J (S,(j,())) bG)/\(aB 32 (.agg #[I 0,aE,aE,aE]) p λT bH=>ah P 6 [d] bH λbI bJ=>aD 4 T R bJ λct bK=>aD 5 j bI bK λcu bL=>J (T,(j,())) bL)))/\(aB 32 (.agg #[I 0,aE,aE,aE]) Q λU bM=>ah P 5 [k] bM λbN V=>(bq 6 V e λbO=>bO=d)/\(ah P 6 [d] V λbP bQ=>aD 4 U bN bQ λcv bR=>aD 5 j bP bR λcw bS=>J (U,(j,())) bS)))) (λx hh=>Mm P z X c x.1 x.2.1 hh))
def acW(H:Mn prog q r s h K):aF prog 3 #[q,r,s] h K:=aG H func3 [(4,[7,8]),(25,[17])]
def Mo(P:Program)(K:KT)(a:af):Prop:=K (.bool false) a
def Mp(P:Program)(K:KT)(a:af):Prop:=K (.bool false) a
def Mq:=aq .lss k (I 6) λe=>aA e (aV [I 0,I 0,I 0,I 0] [(0,1,k),(2,1,I 2)] λf=>ah P 12 [a,f] y λd g=>bp d 0 λi=>bp d 1 λs=>aB 62 (.agg #[I 0,I 0,aE,aE]) g λc j=>aD 4 c i j λt b=>au 0 c λl=>ag b l λm=>aq .neq m (I 0) λn=>aA n (Mp P Z b) (au 1 c λo=>ag b o λp=>aq .neq p (I 5) λq=>aA q (Mp P Z b) (aq .add k (I 1) λr=>z r b))) (Z (.bool true) y)
def Mr:=uX 2 (bO [I 0] 3) [(0,1,I 0),(1,1,I 1),(2,1,I 2)] 3 y λg i=>uX 2 (bO [I 0] 3) [(0,1,I 0),(1,1,I 0),(2,1,I 0)] 3 i λj k=>aV [I 0,I 0,I 0] [(0,1,I 0),(1,1,I 1),(2,1,I 2)] λl=>aV [I 0,I 0,I 0] [(0,1,I 1),(1,1,I 2),(2,1,I 3)] λm=>aV [I 0,I 0,I 0] [(0,1,I 0),(1,1,I 2),(2,1,I 6)] λn=>uX 59 (bO [I 0,I 0,I 0] 3) [(0,3,l),(3,3,m),(6,3,n)] 3 k λo p=>aV [I 0,aE,aE,aE] [(0,1,I 3),(1,1,g),(2,1,j),(3,1,o)] λq=>aB 32 (.agg #[I 0,aE,aE,aE]) p λa r=>aD 4 a q r λu b=>bq 4 b a λs=>aV [I 0,I 0,aE,I 0,I 0] [(0,1,I 1),(3,1,I 1),(4,1,I 2)] λt=>ah P 7 [s,t] b λc d=>bp c 0 λe=>bp c 1 λv=>bL true .iface v .nilIface λw=>aA w (Mo P z d) (ah P 10 [e] d λA f=>bB A λB=>aq .neq B (I 6) λC=>aA C (Mo P z f) (bI (σ:=bt [4]) (λx hh D=>Mq P e z x.1 hh (λa0 hz=>D (a0,()) hz)) (I 0,()) f))
def acX(H:Mr prog h K):aF prog 4 #[] h K:=aG H func4 [(8,[4])]
def Ms:=aB 25 a y λc f=>aB 32 (.agg #[I 0,aE,aE,aE]) f λd b=>au 0 c λg=>ag b g λi=>au 0 c λj=>ag b j λk=>bB k λl=>lN l (I 60) λm=>eW 1 i none (some m) none λn=>aV [aE,I 0] [(0,1,n)] λo=>aB 68 o b λp q=>ah P 13 [p] q λr s=>aD 4 d r s λu e=>bq 4 e d λres=>z res e
def acY(H:Ms prog q h K):aF prog 5 #[q] h K:=aG H func5
def Gs(P:Program)(d a:Value)(K:KT)(b:af):Prop:=bq 5 b d λe=>aD 5 a e b λf c=>bq 5 c a λres=>K res c
def Mt:=au 2 a λc=>ag y c λd=>aA d (au 1 k λe=>aD 1 e (I 1) y λg f=>Gs P k b Z f) (Gs P k b Z y)
def Mu:=aB 25 a y λc A=>aB 35 (.agg #[I 0,I 0,aE,I 0,I 0]) A λB b=>akV (σ:=bt [3]) (λJ=>au 1 c λd=>ag b d λe=>aq .rem e (.int .u8 6) λC=>cJ .i64 C λn=>au 3 c λD=>ag b D λE=>au 3 c λF=>ag b F λG=>bB G λH=>lN H (I 12) λL=>eW 1 E none (some L) none λo=>au 4 c λf=>ag b f λg=>aq .rem g (.int .u8 3) λM=>cJ .i64 M λp=>au 5 c λi=>ag b i λj=>aq .rem j (.int .u8 8) λN=>cJ .i64 N λO=>aq .add (I 1) O λq=>(uX 253 (bO [.int .u32 0] 0) [] 0 b λr s=>(uY 253 1 4 [.int .u32 0] r o s λQ k=>(ag k d λR=>R=e)/\(ag k f λS=>S=g)/\(ag k i λT=>T=j)/\(aV [I 0,I 0,aE,I 0,I 0] [(0,1,n),(2,1,Q),(3,1,p),(4,1,q)] λU=>aB 35 (.agg #[I 0,I 0,aE,I 0,I 0]) k λt V=>aD 5 t U V λu W=>J (t,()) W))/\(aB 35 (.agg #[I 0,I 0,aE,I 0,I 0]) s λv X=>uY 253 1 4 [.int .u32 0] r o X λY l=>(ag l d λZ=>Z=e)/\(ag l f λaa=>aa=g)/\(ag l i λaf=>af=j)/\(aV [I 0,I 0,aE,I 0,I 0] [(0,1,n),(2,1,Y),(3,1,p),(4,1,q)] λah=>aD 5 v ah l λaF ai=>J (v,()) ai)))/\(aB 35 (.agg #[I 0,I 0,aE,I 0,I 0]) b λw aj=>uX 253 (bO [.int .u32 0] 0) [] 0 aj λak an=>uY 253 1 4 [.int .u32 0] ak o an λav m=>(ag m d λax=>ax=e)/\(ag m f λay=>ay=g)/\(ag m i λaz=>az=j)/\(aV [I 0,I 0,aE,I 0,I 0] [(0,1,n),(2,1,av),(3,1,p),(4,1,q)] λaA=>aD 5 w aA m λaG aC=>J (w,()) aC))) (λx hh=>Mt P c B z x.1 hh)
def acZ(H:Mu prog q h K):aF prog 6 #[q] h K:=aG H func6 [(1,[3])]
def zU(P:Program)(K:KT)(a:Value)(b:af):Prop:=K (.tuple #[a,.nilIface]) b
def zV:=au 3 a λk=>ag y k λl=>aq .neq l (I 0) λm=>aA m (au 3 a λe=>ag y e λf=>au 4 a λg=>ag y g λi=>ah P 21 [] y λn d=>(ag d e λo=>o=f)/\(ag d g λp=>p=i)/\(dP (.int .i64) .nilFunc false d n f λq=>aX P q [b,i].toArray d λr s=>ah P 20 [r] s λt u=>ah P 19 [t] u λv w=>aI c λx=>au 2 x λz=>aD 1 z v w λJ j=>aI c λA=>au 2 A λB=>ag j B λC=>ah P 22 [b,C] j λD E=>aI c λF=>au 3 F λG=>aD 1 G D E λL H=>zU P Z c H)) (zU P Z c y)
def Mv:=aB 32 a y λA B=>aB 35 b B λc o=>bq 5 o c λC=>ah P 14 [C] o λp j=>bL true .iface p .nilIface λD=>aA D (z (.tuple #[.pointer none,p]) j) (bq 4 j A λE=>ah P 15 [E] j λq r=>bp q 0 λe=>bp q 1 λs=>bL true .iface s .nilIface λF=>aA F (z (.tuple #[.pointer none,s]) r) (aV [.pointer none,.pointer none,.pointer none,.pointer none] [(0,1,e)] λG=>aB 52 G r λk d=>au 0 c λH=>ag d H λJ=>aq .gtr J (I 0) λL=>aA L (au 1 c λl=>ag d l λg=>au 0 c λm=>ag d m λn=>au 2 c λt=>ag d t λv=>ah P 17 [] d λw f=>(ag f l λM=>M=g)/\(ag f m λN=>N=n)/\(ag f t λO=>O=v)/\(dP (.int .i64) .nilFunc false f w g λx=>ah P 18 [v] f λQ i=>(ag i l λR=>R=g)/\(ag i m λS=>S=n)/\(dP (.int .i64) .nilFunc false i w g λT=>T=x)/\(aX P x [e,n,Q].toArray i λU V=>ah P 16 [e,U] V λW X=>aI k λY=>au 1 Y λZ=>aD 1 Z W X λu aa=>zV P c e k z aa))) (zV P c e k z d)))
def ac0(H:Mv prog q r h K):aF prog 7 #[q,r] h K:=aG H func7
def Gt(P:Program)(K:KT)(a:af):Prop:=K (.pointer none) a
def Mw:=ah P 23 [a] y λc g=>bp c 0 λi=>bp c 1 λj=>ah P 24 [i] g λd b=>bp d 0 λe=>bp d 1 λk=>aq .neq j (I 0) λl=>aA l (Gt P z b) (aq .neq k (I 0) λm=>aA m (Gt P z b) (ah P 25 [a,e] b λn f=>bY .not n λo=>aA o (Gt P z f) (z e f)))
def ac1(H:Mw prog q h K):aF prog 8 #[q] h K:=aG H func8
def Mx:=aB 45 (.agg #[aE,aE,aE]) y λc e=>ah P 26 [a,b,(.func (.func 27) #[a] #[]),(.func (.func 28) #[] #[])] e λf g=>aD 3 c f g λu d=>bq 3 d c λres=>z res d
def ac2(H:Mx prog q r h K):aF prog 9 #[q,r] h K:=aG H func9
def My:=ah P 30 [a] y λb c=>ah P 29 [b] c λd e=>z d e
def ac3(H:My prog q h K):aF prog 10 #[q] h K:=aG H func10
def Mz(P:Program)(K:KT)(a:af):Prop:=K (.bool false) a
def Cu(P:Program)(K:KT)(a:af):Prop:=K (.bool false) a
def MA(P:Program)(K:KT)(a:af):Prop:=K (.bool false) a
def xA(P:Program)(a:Value)(Z:KT)(b:af):Prop:=aq .add a (I 1) λc=>Z c b
def MB:=bB a λd=>aq .lss k d λe=>aA e (aY 4 a k λf=>au 0 f λg=>ag y g λi=>aq .eql i (I 0) λj=>aA j (au 0 b λl=>ag y l λm=>aq .neq m (I 1) λn=>aA n (au 0 b λo=>ag y o λp=>aq .neq p (I 3) λq=>aA q (aY 4 a k λr=>au 3 r λs=>ag y s λt=>aq .gtr t c λu=>aA u (MA P Z y) (aY 4 a k λv=>au 1 v λw=>ag y w λx=>aq .neq x (I 0) λA=>aA A (MA P Z y) (xA P k z y))) (xA P k z y)) (xA P k z y)) (xA P k z y)) (Z (.bool true) y)
def MC:=aB 56 b y λg k=>bq 4 k g λo=>ah P 12 [a,o] k λl p=>bp l 0 λq=>bp l 1 λi=>aB 62 (.agg #[I 0,I 0,aE,aE]) p λe r=>aD 4 e q r λu m=>aI a λs=>au 0 s λt=>ag m t λv=>ah P 31 [v,i] m λw j=>bY .not w λA=>aA A (Mz P z j) (aI a λB=>au 0 B λC=>ag j C λD=>ah P 32 [D,i] j λE d=>bY .not E λF=>aA F (Mz P z d) (aq .geq c (I 72057594037927936) λG=>aA G (au 0 e λH=>ag d H λJ=>aq .eql J (I 20) λL=>aA L (au 1 e λM=>ag d M λN=>aq .eql N (I 0) λO=>aA O (au 2 e λQ=>ag d Q λR=>bB R λS=>aq .eql S (I 0) λT=>z T d) (z (.bool false) d)) (z (.bool false) d)) (aI a λU=>au 0 U λV=>ag d V λW=>au 1 g λX=>ag d X λY=>au 2 g λZ=>ag d Z λaa=>au 2 e λaf=>ag d af λai=>ah P 33 [W,Y,aa,ai] d λn f=>bp n 0 λaj=>bp n 1 λak=>au 0 e λan=>ag f an λav=>aq .neq av (I 0) λax=>aA ax (Cu P z f) (au 1 e λay=>ag f ay λaz=>aq .neq az c λaC=>aA aC (Cu P z f) (bY .not ak λaF=>aA aF (Cu P z f) (aq .neq aj c λaG=>aA aG (Cu P z f) (bI (σ:=bt [11]) (λx hh aH=>MB P i g c z x.1 hh (λa0 hz=>aH (a0,()) hz)) (I 0,()) f)))))))
def ac4(H:MC prog q r s h K):aF prog 11 #[q,r,s] h K:=aG H func11 [(14,[11])]
def MD:=bq 3 y k λj=>ag y a λl=>ah P 40 [j,l] y λm n=>ah P 37 [m,I 19] n λL e=>au 1 b λo=>ag e o λp=>au 2 b λq=>ag e q λr=>aq .eql p r λs=>aA s (bq 4 e c λt=>aD 4 c t e λM u=>aD 1 d aE u λN v=>js P 34 #[c,d] v λf=>bq 4 f c λres=>ag f d λw=>Z (.tuple #[res,w]) f) (au 2 k λx=>ag e x λz=>ag e a λA=>bq 4 e b λB=>aX P z [A,B].toArray e λi C=>bp i 0 λD=>bp i 1 λE=>aD 4 c D C λO F=>aD 1 d E F λQ G=>js P 34 #[c,d] G λg=>bq 4 g c λH=>ag g d λJ=>Z (.tuple #[H,J]) g)
def Gu:=au 1 a λn=>ag y n λo=>aX P (.func (.func 35) #[] #[b]) [o].toArray y λp q=>ah P 37 [p,I 17] q λL i=>au 2 a λr=>ag i r λs=>aX P (.func (.func 35) #[] #[b]) [s].toArray i λt v=>ah P 37 [t,I 18] v λM f=>akV (σ:=bt [7]) (λJ=>au 0 a λg=>ag f g λe=>(ah P 39 [] f λw j=>(ag j g λz=>z=e)/\(pQ 3 6 w e λA=>aB 109 (.agg #[.bool false,.bool false,.nilFunc]) j λk B=>aD 3 k A B λu C=>J (k,()) C))/\(aB 109 (.agg #[.bool false,.bool false,.nilFunc]) f λl D=>ah P 39 [] D λE m=>(ag m g λF=>F=e)/\(pQ 3 6 E e λG=>aD 3 l G m λN H=>J (l,()) H))) (λx hh=>MD P b a c d Z x.1 hh)
def ME:=aB 37 a y λe j=>aB 56 b j λc k=>aB 62 (.agg #[I 0,I 0,aE,aE]) k λf l=>aB 63 aE l λg i=>ag i e λm=>ah P 38 [m] i λn o=>ah P 37 [n,I 15] o λx d=>au 0 c λp=>ag d p λq=>aq .geq q (I 0) λr=>aA r (au 0 c λs=>ag d s λt=>aq .lss t (I 6) λu=>ah P 37 [u,I 16] d λA v=>Gu P c e f g z v) (ah P 37 [.bool false,I 16] d λB w=>Gu P c e f g z w)
def ac5{a b:Value}(H:ME prog a b h K):aF prog 12 #[a,b] h K:=
 F5 (g:=34) (A:=cL (Tryz.f12.body.getD .skip)) (B:=cR (cR (Tryz.f12.body.getD .skip))) (lR:=(eX (cL (Tryz.f12.body.getD .skip)) 0 []).1) (iF:=(eX (cR (cR (Tryz.f12.body.getD .skip))) 0 [(5,[7])]).1) (id:=uN (cL (cR (Tryz.f12.body.getD .skip)))) (o1:=cO 0 (cL (cR (Tryz.f12.body.getD .skip)))) (o2:=cO 1 (cL (cR (Tryz.f12.body.getD .skip)))) (s:=8) (caps:= #[.tmp 4,.tmp 5]) (c:={callee:=.value (.tmp 8),args:= #[],argTypes:= #[]})
  func12 bn bn bn iC bn bn bn bn rfl rfl bn bn
  (Eq.mpr bn H)
def Gv(P:Program)(i8:Value)(a:KT)(b:af):Prop:=aq .add i8 (I 1) λc=>a c b
def MF:=au 3 a λe=>ag y e λf=>bq 3 y k λg=>uX 59 (bO [I 0,I 0,I 0] 1) [(0,3,g)] 1 y λi j=>uY 59 3 24 [I 0,I 0,I 0] f i j λl m=>au 3 a λn=>aD 1 n l m λH o=>ah P 41 [b,I 4] o λp d=>aq .eql p (I 0) λq=>aA q (au 3 a λr=>ag d r λs=>au 1 k λt=>ag d t λu=>au 0 k λv=>ag d v λw=>au 2 k λx=>ag d x λz=>aV [I 0,I 0,I 0] [(0,1,u),(1,1,w),(2,1,z)] λA=>uX 59 (bO [I 0,I 0,I 0] 1) [(0,3,A)] 1 d λB C=>uY 59 3 24 [I 0,I 0,I 0] s B C λD E=>au 3 a λF=>aD 1 F D E λJ G=>Gv P c Z G) (Gv P c Z d)
def MG:=aq .lss k a λt=>aA t (akV (σ:=bt [9]) (λJ=>au 0 b λu=>ag y u λj=>au 0 b λf=>ag y f λe=>(ah P 41 [c,j] y λg i=>(ag i f λv=>v=e)/\((ah P 41 [c,e] i λl m=>(ah P 42 [c] m λw A=>aV [I 0,I 0,I 0] [(0,1,g),(1,1,l),(2,1,w)] λB=>aB 59 (.agg #[I 0,I 0,I 0]) A λn C=>aD 3 n B C λan D=>J (n,()) D)/\(aB 59 (.agg #[I 0,I 0,I 0]) m λo E=>ah P 42 [c] E λF G=>aV [I 0,I 0,I 0] [(0,1,g),(1,1,l),(2,1,F)] λH=>aD 3 o H G λav L=>J (o,()) L))/\(aB 59 (.agg #[I 0,I 0,I 0]) i λp M=>ah P 41 [c,e] M λN O=>ah P 42 [c] O λQ R=>aV [I 0,I 0,I 0] [(0,1,g),(1,1,N),(2,1,Q)] λS=>aD 3 p S R λax T=>J (p,()) T)))/\(aB 59 (.agg #[I 0,I 0,I 0]) y λq U=>ah P 41 [c,j] U λV r=>(ag r f λW=>W=e)/\(ah P 41 [c,e] r λX Y=>ah P 42 [c] Y λaa af=>aV [I 0,I 0,I 0] [(0,1,V),(1,1,X),(2,1,aa)] λai=>aD 3 q ai af λay aj=>J (q,()) aj))) (λx hh=>MF P b c k z x.1 hh)) (bq 4 y b λak=>aD 4 d ak y λaz s=>bq 4 s d λres=>Z res s)
def zW:=bI (σ:=bt [8]) (λx hh e=>MG P a b c d Z x.1 hh (λa0 hz=>e (a0,()) hz)) (I 0,()) y
def MH:=au 0 a λm=>ag y m λn=>aq .lss k n λo=>aA o (aA b (au 3 a λg=>ag y g λi=>aq .add k (I 1) λp=>au 0 a λj=>ag y j λl=>aq .rem p l λq=>ah P 42 [c] y λr f=>(ag f g λs=>s=i)/\(ag f j λt=>t=l)/\(aV [I 0,I 0,I 0] [(0,1,k),(1,1,q),(2,1,r)] λu=>uX 59 (bO [I 0,I 0,I 0] 1) [(0,3,u)] 1 f λv w=>uY 59 3 24 [I 0,I 0,I 0] i v w λx A=>au 3 a λB=>aD 1 B x A λE C=>aq .add k (I 1) λD=>z D C)) (zW P d a c e Z y)) (zW P d a c e Z y)
def Cv:=au 0 a λd=>ag y d λe=>aq .mul (I 3) e λf=>aq .add f (I 1) λg=>ah P 41 [b,g] y λi j=>ah P 41 [b,I 3] j λk l=>aq .gtr k (I 0) λm=>bI (σ:=bt [7]) (λx hh n=>MH P a m b i c Z x.1 hh (λa0 hz=>n (a0,()) hz)) (I 0,()) l
def MI:=au 0 a λo=>ag y o λp=>aq .lss k p λq=>aA q (au 1 a λf=>ag y f λg=>ah P 41 [b,I 9] y λr i=>(ag i f λs=>s=g)/\(aq .sub r (I 3) λt=>uX 2 (bO [I 0] 1) [(0,1,t)] 1 i λu v=>uY 2 1 8 [I 0] g u v λw x=>au 1 a λA=>aD 1 A w x λaa j=>au 2 a λl=>ag j l λm=>ah P 41 [b,I 7] j λB n=>(ag n l λC=>C=m)/\(uX 2 (bO [I 0] 1) [(0,1,B)] 1 n λD E=>uY 2 1 8 [I 0] m D E λF G=>au 2 a λH=>aD 1 H F G λaf J=>aq .add k (I 1) λL=>z L J))) (ah P 41 [b,I 9] y λM d=>aq .eql M (I 0) λN=>aA N (au 1 a λO=>ag d O λQ=>aY 1 Q (I 0) λR=>aD 1 R (I (-2147483648)) d λai e=>au 2 a λS=>ag e S λT=>au 0 a λU=>ag e U λV=>aq .sub V (I 1) λW=>aY 1 T W λX=>aD 1 X (I 2147483647) e λaj Y=>Cv P a b c Z Y) (Cv P a b c Z d))
def MJ:=aB 32 (.agg #[I 0,aE,aE,aE]) y λc d=>ah P 41 [a,I 12] d λe f=>aq .add (I 1) e λg=>aV [I 0,aE,aE,aE] [(0,1,g)] λi=>aB 32 (.agg #[I 0,aE,aE,aE]) f λb j=>aD 4 b i j λu k=>bI (σ:=bt [4]) (λx hh l=>MI P b a c z x.1 hh (λa0 hz=>l (a0,()) hz)) (I 0,()) k
def ac6(H:MJ prog q h K):aF prog 13 #[q] h K:=aG H func13 [(4,[4]),(16,[7]),(22,[8]),(26,[9])]
def MK:=aB 35 a y λp1 b=>bq 5 b p1 λc=>aV [.nilFunc,I 0] [(0,1,(.func (.func 44) #[] #[])),(1,1,I 11)] λd=>aV [.nilFunc,I 0] [(0,1,(.func (.func 45) #[] #[])),(1,1,I 12)] λe=>aV [.nilFunc,I 0] [(0,1,(.func (.func 46) #[] #[])),(1,1,I 13)] λf=>aV [.nilFunc,I 0] [(0,1,(.func (.func 47) #[] #[])),(1,1,I 14)] λg=>uX 117 (bO [.nilFunc,I 0] 4) [(0,2,d),(2,2,e),(4,2,f),(6,2,g)] 4 b λi j=>ah P 43 [c,i] j λk l=>z k l
def ac7(H:MK prog q h K):aF prog 14 #[q] h K:=aG H func14
def MM:=aB 32 a y λc d=>bq 4 d c λg=>ah P 48 [g] d λe b=>bL true .iface e .nilIface λi=>aA i (ah P 49 [e] b λj k=>aB 120 (.agg #[I 0,I 0,I 0,I 0]) k λf l=>aD 4 f j l λu m=>aV [.pointer none] [(0,1,f)] λn=>z (.tuple #[.pointer none,.iface 124 n]) m) (bq 4 b c λo=>ah P 51 [o] b λp q=>ah P 50 [p] q λr s=>z (.tuple #[r,.nilIface]) s)
def ac8(H:MM prog q h K):aF prog 15 #[q] h K:=aG H func15
def MN(P:Program)(K:KT)(a:af):Prop:=K (.pointer none) a
def MO:=bL false .ptr a (.pointer none) λd=>aA d (MN P z y) (ah P 36 [a] y λe f=>ah P 52 [e,b] f λg c=>bY .not g λi=>aA i (MN P z c) (ah P 36 [a] c λj k=>ah P 53 [b] k λl m=>ah P 55 [a,b,(.func (.func 56) #[] #[])] m λn o=>ah P 54 [n] o λp q=>ah P 55 [a,b,(.func (.func 9) #[] #[])] q λr s=>ah P 54 [r] s λt u=>aV [I 0,aE,aE,aE] [(0,1,j),(1,1,l),(2,1,p),(3,1,t)] λv=>aB 134 v u λw x=>z w x))
def ac9(H:MO prog q r h K):aF prog 16 #[q,r] h K:=aG H func16
def MP(P:Program)(h:af)(K:KT):Prop:=bH h λa b=>e9 (.int .i64) a (I 0) (.func (.func 57) #[] #[]) b λu c=>e9 (.int .i64) a (I 1) (.func (.func 58) #[] #[]) c λe d=>K a d
def ada(H:MP prog h K):aF prog 17 #[] h K:=aG H func17
def MQ(P:Program)(l0:Value)(h:af)(K:KT):Prop:=bB l0 λa=>dG 253 4 [.int .u32 0] a a h λb c=>kZ 1 b l0 c λi d=>aV [aE] [(0,1,b)] λe=>aB 136 e d λf g=>K f g
def adb(H:MQ prog q h K):aF prog 18 #[q] h K:=aG H func18
def MR(P:Program)(K:KT)(a:af):Prop:=K (.pointer none) a
def MS:=bB a λe=>aq .eql e (I 0) λf=>aA f (MR P z y) (ah P 20 [a] y λg i=>ah P 59 [g,a] i λj c=>bY .not j λk=>aA k (MR P z c) (ah P 53 [a] c λl m=>ah P 60 [a] m λn o=>aq .add n (I 1) λp=>aV [aE,I 0] [(0,1,l),(1,1,p)] λq=>aB 140 q o λd b=>aI d λr=>au 1 r λs=>ag b s λt=>aq .gtr t (I 256) λu=>aA u (z (.pointer none) b) (z d b)))
def ade(H:MS prog q h K):aF prog 19 #[q] h K:=aG H func19
def MT:=ah P 62 [] y λb c=>ah P 61 [a,b] c λd e=>z d e
def adf(H:MT prog q h K):aF prog 20 #[q] h K:=aG H func20
def MU(P:Program)(h:af)(K:KT):Prop:=bH h λa b=>e9 (.int .i64) a (I 0) (.func (.func 63) #[] #[]) b λu c=>e9 (.int .i64) a (I 1) (.func (.func 64) #[] #[]) c λf d=>e9 (.int .i64) a (I 2) (.func (.func 65) #[] #[]) d λg e=>K a e
def adg(H:MU prog h K):aF prog 21 #[] h K:=aG H func21
def MW(b c:Value)(d:Loop)(e:Value)(f:af)(g:Exit->af->Prop):=iZ (y.size+1) d f λa=>ag a b λi=>ag a c λj=>ah P 71 [i,j,e,.bool true] a λl k=>g .normal k
def MX(f:List Nat)(g:Value)(i:af)(l:List Nat->KT):=aq .lss g a λm=>aA m (aB 3 (I 0) i λj n=>aD 1 j g n λw k=>ag k j λo=>ah P 70 [b,c,o] k λp e=>gO P p [26] (e.size+1) (e.push (.deferred (some []))) (λL x hh R=>MW P e d j L x.1 hh R) (λq=>aq .add g (I 1) λr=>l (e.size::f) r q) (λs=>de (e.size::f) s λt=>Z (.pointer none) t) []) (ag i d λu=>de f i λv=>Z u v)
def MY:=ah P 66 [a,b] y λe c=>bY .not e λf=>aA f (z (.pointer none) c) (ah P 68 [b] c λg i=>ah P 69 [a] i λj k=>ah P 67 [g,j] k λl m=>aB 50 (.pointer none) m λd n=>aD 1 d l n λu o=>ah P 68 [b] o λp q=>bI (σ:=List Nat×bt [19]) (λx hh r=>MX P p a b d z x.1 x.2.1 hh (λs a0 hz=>r (s,(a0,())) hz)) ([],(I 0,())) q)
def adh(H:MY prog q r h K):aF prog 22 #[q,r] h K:=aG H func22 [(7,[19])]
def MZ:=bL false .ptr a (.pointer none) λd=>aA d (z (.tuple #[(.string ⟨#[]⟩),I 1]) y) (ah P 38 [a] y λe b=>bY .not e λf=>aA f (z (.tuple #[(.string ⟨#[]⟩),I 2]) b) (ah P 73 [a] b λg i=>ah P 72 [g] i λc j=>bp c 0 λk=>bp c 1 λl=>z (.tuple #[k,l]) j))
def adi(H:MZ prog q h K):aF prog 23 #[q] h K:=aG H func23
def Cw:=ag y a λf=>bB f λg=>aq .eql g (I 0) λi=>ah P 79 [i,I 25] y λn e=>ag e b λj=>aD 1 b j e λo k=>aD 1 c (I 0) k λp l=>js P 75 #[b,c] l λd=>ag d b λres=>ag d c λm=>Z (.tuple #[res,m]) d
def Cx:=uX 3 (bO [I 0] 2) [(0,1,I 3),(1,1,I 4)] 2 y λl m=>aX P (.func (.func 76) #[] #[a]) [l].toArray m λn d=>aA n (ag d b λg=>ag d b λe=>ag d b λo=>aI o λp=>au 0 p λq=>ag d q λr=>ag d a λs=>aY 2 s (I 0) λt=>au 1 t λu=>ag d u λv=>ag d a λw=>aY 2 w (I 1) λx=>au 1 x λz=>ag d z λA=>ah P 82 [r,v,A] d λi f=>(ag f b λB=>B=g)/\(ag f b λC=>C=e)/\(bp i 0 λD=>bp i 1 λE=>aI g λF=>au 2 F λG=>aD 1 G D f λQ j=>(ag j b λH=>H=e)/\(aI e λJ=>au 3 J λL=>aD 1 L E j λR k=>ag k a λM=>eW 2 M (some (I 2)) none none λN=>aD 1 a N k λS O=>Cw P a b c Z O))) (Cw P a b c Z d)
def M0:=aB 37 (.pointer none) y λc p=>aB 60 (I 0) p λd q=>ah P 74 [a] q λi r=>bp i 0 λs=>bp i 1 λt=>aB 148 aE r λb v=>aD 1 b s v λu w=>aD 1 d t w λaH f=>ag f d λx=>aq .neq x (I 0) λA=>aA A (ag f d λj=>aD 1 c (.pointer none) f λaJ k=>(ag k d λB=>B=j)/\(aD 1 d j k λaK aL=>False)) (uX 3 (bO [I 0] 1) [(0,1,I 1)] 1 f λC D=>aX P (.func (.func 76) #[] #[b]) [C].toArray D λE F=>ah P 79 [E,I 25] F λaM g=>ag g b λG=>aY 2 G (I 0) λH=>au 1 H λJ=>ag g J λL=>ah P 80 [L] g λM N=>aV [.pointer none,.pointer none,.pointer none,.pointer none] [(0,1,M)] λO=>aB 52 O N λQ R=>aD 1 c Q R λaN l=>ag l b λS=>eW 2 S (some (I 1)) none none λT=>aD 1 b T l λaO U=>uX 3 (bO [I 0] 1) [(0,1,I 2)] 1 U λV W=>aX P (.func (.func 76) #[] #[b]) [V].toArray W λX e=>aA X (ag e c λm=>ag e c λY=>aI Y λZ=>au 0 Z λaa=>ag e aa λaf=>ag e b λai=>aY 2 ai (I 0) λaj=>au 1 aj λak=>ag e ak λan=>ah P 81 [af,an] e λav n=>(ag n c λax=>ax=m)/\(aI m λay=>au 1 ay λaz=>aD 1 az av n λaP o=>ag o b λaC=>eW 2 aC (some (I 1)) none none λaF=>aD 1 b aF o λaQ aG=>Cx P b c d z aG)) (Cx P b c d z e))
def adj{s0:Value}(H:M0 prog s0 h K):aF prog 24 #[s0] h K:=
 Lm [(cL (Tryz.f24.body.getD .skip),(eX (cL (Tryz.f24.body.getD .skip)) 0 []).1),(cL (cR (Tryz.f24.body.getD .skip)),(eX (cL (cR (Tryz.f24.body.getD .skip))) 0 []).1)] (g:=75) (A:=cL (cR (cR (Tryz.f24.body.getD .skip)))) (B:=cR (cR (cR (cR (Tryz.f24.body.getD .skip))))) (lR:=(eX (cL (cR (cR (Tryz.f24.body.getD .skip)))) 0 []).1) (iF:=(eX (cR (cR (cR (cR (Tryz.f24.body.getD .skip))))) 0 []).1) (id:=uN (cL (cR (cR (cR (Tryz.f24.body.getD .skip)))))) (o1:=cO 0 (cL (cR (cR (cR (Tryz.f24.body.getD .skip)))))) (o2:=cO 1 (cL (cR (cR (cR (Tryz.f24.body.getD .skip)))))) (s:=14) (caps:= #[.tmp 2,.tmp 3]) (c:={callee:=.value (.tmp 14),args:= #[],argTypes:= #[]})
  func24 bn bn bn iC bn bn bn bn rfl rfl bn bn
  (Eq.mpr bn H)
def M1:=ah P 38 [a] y λe c=>aA e (ah P 38 [b] c λf d=>aA f (ah P 73 [a] d λg i=>ah P 73 [b] i λj k=>ah P 83 [g,j] k λl m=>z l m) (z (.bool false) d)) (z (.bool false) c)
def adk(H:M1 prog q r h K):aF prog 25 #[q,r] h K:=aG H func25
def Cy(P:Program)(a:Value)(K:KT)(c:af):Prop:=aV [aE,aE,aE] [] λd=>aD 3 a d c λu b=>bq 3 b a λres=>K res b
def M3(c d:Value)(e:Loop)(f g:Value)(i:af)(j:Exit->af->Prop):=aB 59 (.agg #[I 0,I 0,I 0]) i λb k=>aD 3 b g k λu l=>iZ (y.size+1) e l λa=>ag a c λm=>au 1 b λn=>ag a n λo=>ag a d λp=>au 2 b λq=>ag a q λr=>aq .add p r λs=>ah P 90 [m,o,f,s] a λv t=>j .normal t
def Gw(l:List Nat)(g m w:Value)(f:af)(y:List Nat->Value->Value->KT):=aA w (ag f a λz=>aI z λA=>au 4 A λB=>ag f B λq=>dP (.int .i64) (I 0) false f q g λC=>aq .add C (I 1) λD=>e9 (.int .i64) q g D f λaV j=>ag j a λE=>aI E λF=>au 1 F λG=>au 0 G λH=>ag j H λJ=>ag j m λM=>aY 1 J g λN=>aD 1 N M j λaW k=>ag k a λr=>ag k a λO=>aI O λQ=>au 1 Q λS=>au 2 S λT=>ag k T λU=>uX 3 (bO [I 0] 1) [(0,1,g)] 1 k λV W=>uY 3 1 8 [I 0] U V W λX s=>(ag s a λY=>Y=r)/\(aI r λaa=>au 1 aa λai=>au 2 ai λaj=>aD 1 aj X s λaZ ak=>aX P b [g].toArray ak λan av=>ah P 89 [c,an,d] av λax i=>gO P ax [101,102] (i.size+1) (i.push (.deferred (some []))) (λL x hh R=>M3 P i a m L x.1 x.2.1 hh R) (λt=>ag t m λay=>aB 2 (I 0) t λn az=>aD 1 n ay az λbf o=>ag o a λaC=>aI aC λaE=>au 0 aE λaF=>ag o aF λaG=>ah P 88 [aG] o λp aH=>bp p 0 λaJ=>bp p 1 λaK=>bp p 2 λaL=>aD 1 n aK aH λbg aM=>y (i.size::l) aJ n aL aM) (λaN=>de (i.size::l) aN λu=>bq 3 u e λaO=>Z aO u) [])) (ag f a λaP=>aI aP λaQ=>au 1 aQ λaR=>bq 3 f aR λaS=>aD 3 e aS f λbh aT=>de l aT λv=>bq 3 v e λaU=>Z aU v)
def Gx:=aB 45 (.agg #[aE,aE,aE]) y λe g=>bL false .ptr a (.pointer none) λn=>aA n (Cy P e z g) (aq .lss b (I 0) λo=>aA o (Cy P e z g) (ah P 36 [a] g λp l=>aq .geq b p λq=>aA q (Cy P e z l) (ah P 36 [a] l λr s=>ah P 84 [r] s λt u=>uX 2 (bO [I 0] 1) [(0,1,I 72057594037927936)] 1 u λv w=>ah P 36 [a] w λA B=>ah P 85 [v,A] B λC D=>uX 3 (bO [I 0] 1) [(0,1,I (-1))] 1 D λE F=>ah P 36 [a] F λG H=>ah P 86 [E,G] H λJ L=>aV [aE,aE,aE] [(0,1,C),(1,1,J)] λM=>bH L λN O=>aV [.pointer none,aE,aE,aE,.map none] [(0,1,t),(1,3,M),(4,1,N)] λQ=>aB 172 Q O λR S=>aB 165 (.pointer none) S λf T=>aD 1 f R T λaG i=>ag i f λU=>aI U λV=>au 0 V λW=>ag i W λX=>ah P 87 [X,b,I 0] i λaH j=>ag j f λY=>aI Y λZ=>au 0 Z λaa=>ag j aa λaf=>ah P 88 [af] j λk ai=>bp k 0 λaj=>bp k 1 λak=>bp k 2 λan=>aB 2 (I 0) ai λm av=>aD 1 m ak av λaJ ax=>bI (σ:=List Nat×bt [10,11,12]) (λx hh ay=>Gw P f c a d e z x.1 x.2.1 x.2.2.1 x.2.2.2.1 hh (λaz a0 aC aF hz=>ay (az,(a0,(aC,(aF,())))) hz)) ([],(aj,(m,(an,())))) ax)))
def M4(H:Gx prog q r s t h K):aF prog 26 #[q,r,s,t] h K:=aG H func26 [(8,[10,11,12])]
def M5:=bL false .ptr a (.pointer none) λd=>aA d (z aE y) (aI a λe=>au 4 e λf=>ag y f λg=>ah P 91 [g,b] y λc i=>bp c 0 λj=>bp c 1 λm=>ah P 53 [j] i λk l=>z k l)
def adl(H:M5 prog q r h K):aF prog 27 #[q,r] h K:=aG H func27
def M6(P:Program)(a0:Value)(h:af)(K:KT):Prop:=aB 59 a0 h λb a=>au 1 b λc=>ag a c λd=>K d a
def adm(H:M6 prog q h K):aF prog 28 #[q] h K:=aG H func28
def Cz:=ah P 92 [aE,a] y λb c=>z b c
def Gy(H:Cz prog q h K):aF prog 29 #[q] h K:=aG H func29
def M7(P:Program)(a:Value)(h:af)(K:KT):Prop:=aB 37 a h λb c=>K (.func (.func 93) #[] #[b]) c
def adn(H:M7 prog q h K):aF prog 30 #[q] h K:=aG H func30
def M8:=bL false .ptr a (.pointer none) λe=>aA e (z (.bool false) y) (ah P 94 [a] y λf g=>aB 186 .nilFunc g λc i=>aD 1 c f i λu j=>bH j λk l=>aB 188 (.map none) l λd m=>aD 1 d k m λr n=>ah P 95 [b,(.func (.func 96) #[] #[d,c])] n λo p=>bY .not o λq=>z q p)
def ado(H:M8 prog q r h K):aF prog 31 #[q,r] h K:=aG H func31
def M9:=aB 47 a y λd c=>ag c d λg=>bL false .ptr g (.pointer none) λi=>aA i (z (.bool false) c) (ag c d λj=>ah P 94 [j] c λk l=>aB 186 .nilFunc l λe m=>aD 1 e k m λu n=>aV [I 0,I 0] [(0,1,I (-1)),(1,1,I (-1))] λo=>aB 191 (.agg #[I 0,I 0]) n λf p=>aD 2 f o p λv q=>ah P 95 [b,(.func (.func 97) #[] #[e,f,d])] q λr s=>bY .not r λt=>z t s)
def adp(H:M9 prog q r h K):aF prog 32 #[q,r] h K:=aG H func32
def Na(P:Program)(f:af)(c d:Value)(L:Loop)(g i:Value)(j:af)(R:Exit->af->Prop):Prop:=aB 59 (.agg #[I 0,I 0,I 0]) j λb k=>aD 3 b g k λv l=>iZ (f.size+1) L l λa=>bY .not i λm=>aA m (aD 1 c (I (-1)) a λw n=>R (.exit 0) n) (ag a d λo=>au 2 b λp=>ag a p λq=>aq .add o q λr=>aD 1 d r a λx e=>au 1 b λs=>ag e s λt=>aD 1 c t e λy u=>R .normal u)
def CA(P:Program)(a:Value)(c:af)(K:KT)(d:af):Prop:=aD 1 a (I 0) d λg e=>de (c.size:: []) e λb=>ag b a λf=>K (.tuple #[f,.bool false]) b
def zX(e:Value)(c:af):=ag c a λf=>aq .lss f (I 0) λg=>aA g (CA P b y z c) (ag c a λi=>aq .neq i e λj=>aA j (CA P b y z c) (ag c b λk=>aD 1 b k c λn l=>de (y.size:: []) l λd=>ag d b λm=>z (.tuple #[m,.bool true]) d))
def Nb:=aB 2 (I 0) y λe l=>ah P 99 [a,b] l λm i=>bY .not m λn=>aA n (aD 1 e (I 0) i λu j=>ag j e λres=>z (.tuple #[res,.bool false]) j) (aB 3 (I 0) i λg o=>aD 1 g b o λw p=>ah P 100 [a,b,d] p λq f=>gO P q [22,23] (f.size+1) (f.push (.deferred (some []))) (λL x hh R=>Na P f g e L x.1 x.2.1 hh R) (λr=>zX P g e f z c r) (λs=>de (f.size:: []) s λk=>ag k e λt=>z (.tuple #[t,.bool false]) k) [(0,(λv=>zX P g e f z c v))])
def adq(H:Nb prog q r s t h K):aF prog 33 #[q,r,s,t] h K:=aG H func33
def Nc:=aq .geq a (I 0) λc=>aA c (ag y b λd=>aI d λe=>au 0 e λf=>ag y f λg=>ah P 36 [g] y λi j=>aq .lss a i λk=>z k j) (z (.bool false) y)
def adr(H:Nc prog q r h K):aF prog 35 #[q,r] h K:=aG H func35
def Nd(P:Program)(a:Value)(h:af)(K:KT):Prop:=bL false .ptr a (.pointer none) λb=>aA b (K (I 0) h) (aI a λc=>au 0 c λd=>au 0 d λe=>ag h e λf=>K f h)
def ads(H:Nd prog q h K):aF prog 36 #[q] h K:=aG H func36
def Nf(P:Program)(a b:Value)(h:af)(K:KT):Prop:=bY .not a λc=>aA c (aV [I 0] [(0,1,b)] λd=>False) (K (.tuple #[]) h)
def adt(H:Nf prog q r h K):aF prog 37 #[q,r] h K:=aG H func37
def Ng(P:Program)(K:KT)(a:af):Prop:=K (.bool false) a
def adu(P:Program)(K:KT)(a:Value)(b:af):Prop:=K a b
def CB:=akV (σ:=bt [2]) (λc=>aA a (aA k (c (.bool true,()) y) (aI b λd=>au 0 d λe=>ag y e λf=>aI b λg=>au 2 g λi=>ag y i λj=>aI b λl=>au 3 l λm=>ag y m λn=>ah P 103 [f,j,n] y λo p=>c (o,()) p)) (c (.bool false,()) y)) (λx hh=>adu P Z x.1 hh)
def Nh:=aI a λb=>au 2 b λc=>ag y c λd=>bL false .ptr d (.pointer none) λe=>aA e (aI a λf=>au 3 f λg=>ag y g λi=>bL false .ptr i (.pointer none) λj=>CB P k a Z j y) (CB P k a Z (.bool false) y)
def Ni:=bL false .ptr a (.pointer none) λf=>aA f (Ng P z y) (aI a λg=>au 0 g λi=>ag y i λj=>bL false .ptr j (.pointer none) λk=>aA k (Ng P z y) (akV (σ:=bt [3]) (λJ=>aI a λl=>au 1 l λm=>ag y m λn=>bL false .ptr n (.pointer none) λo=>aA o (J (.bool true,()) y) (aI a λp=>au 1 p λq=>ag y q λr=>aI a λs=>au 0 s λc=>ag y c λd=>ah P 101 [r] y λt e=>(ag e c λu=>u=d)/\(ah P 36 [d] e λv b=>aq .eql t v λw=>aA w (aI a λA=>au 1 A λB=>ag b B λC=>ah P 102 [C] b λD E=>bB D λF=>aq .gtr F (I 0) λG=>J (G,()) E) (J (.bool false,()) b)))) (λx hh=>Nh P a z x.1 hh)))
def adv(H:Ni prog q h K):aF prog 38 #[q] h K:=aG H func38 [(4,[3]),(6,[2])]
def Nj:=aB 110 (.agg #[.bool false,.bool false,.nilFunc,.bool false,.bool false,.nilFunc,.bool false,.bool false,.nilFunc,.bool false,.bool false,.nilFunc,.bool false,.bool false,.nilFunc,.bool false,.bool false,.nilFunc]) y λa c=>ah P 106 [(.func (.func 107) #[] #[])] c λd e=>aV [.bool false,.bool false,.nilFunc] [(0,1,.bool false),(1,1,.bool false),(2,1,d)] λf=>ah P 106 [(.func (.func 108) #[] #[])] e λg i=>aV [.bool false,.bool false,.nilFunc] [(0,1,.bool false),(1,1,.bool false),(2,1,g)] λj=>aV [.bool false,.bool false,.nilFunc] [(0,1,.bool true),(1,1,.bool false),(2,1,(.func (.func 109) #[] #[]))] λk=>aV [.bool false,.bool false,.nilFunc] [(0,1,.bool true),(1,1,.bool false),(2,1,(.func (.func 111) #[] #[]))] λl=>aV [.bool false,.bool false,.nilFunc] [(0,1,.bool false),(1,1,.bool true),(2,1,(.func (.func 104) #[] #[]))] λm=>aV [.bool false,.bool false,.nilFunc] [(0,1,.bool true),(1,1,.bool true),(2,1,(.func (.func 104) #[] #[]))] λn=>aV [.bool false,.bool false,.nilFunc,.bool false,.bool false,.nilFunc,.bool false,.bool false,.nilFunc,.bool false,.bool false,.nilFunc,.bool false,.bool false,.nilFunc,.bool false,.bool false,.nilFunc] [(0,3,f),(3,3,j),(6,3,k),(9,3,l),(12,3,m),(15,3,n)] λo=>aD 18 a o i λu b=>bq 18 b a λres=>z res b
def adw(H:Nj prog h K):aF prog 39 #[] h K:=aG H func39
def Nk(P:Program)(w0 b:Value)(h:af)(K:KT):Prop:=aB 109 w0 h λc a=>au 0 c λd=>ag a d λe=>bY .not e λf=>aA f (au 1 c λg=>ag a g λi=>bY .not i λj=>aA j (K (.bool true) a) (aI b λk=>au 2 k λl=>ag a l λm=>bL true .ptr m (.pointer none) λn=>K n a)) (aI b λo=>au 1 o λp=>ag a p λq=>bL true .ptr q (.pointer none) λr=>aA r (au 1 c λs=>ag a s λt=>bY .not t λu=>aA u (K (.bool true) a) (aI b λv=>au 2 v λw=>ag a w λx=>bL true .ptr x (.pointer none) λy=>K y a)) (K (.bool false) a))
def adx(H:Nk prog q r h K):aF prog 40 #[q,r] h K:=aG H func40
def Gz(P:Program)(K:KT)(a:af):Prop:=K (I 0) a
def Nl:=aI a λd=>au 0 d λe=>ag y e λf=>bB f λg=>aq .eql g (I 0) λi=>aA i (Gz P z y) (aq .lss b (I 1) λj=>aA j (Gz P z y) (aI a λk=>au 1 k λl=>ag y l λm=>aq .add m (I 1) λn=>aI a λo=>au 1 o λp=>aD 1 p n y λu c=>aI a λq=>au 0 q λr=>ag c r λs=>aI a λt=>au 1 t λv=>ag c v λw=>aq .sub w (I 1) λx=>aI a λA=>au 0 A λB=>ag c B λC=>bB C λD=>aq .rem x D λE=>aY 1 s E λF=>ag c F λG=>aI a λH=>au 1 H λJ=>ag c J λL=>aq .sub L (I 1) λM=>aI a λN=>au 0 N λO=>ag c O λQ=>bB Q λR=>aq .quo M R λS=>cJ .u8 S λT=>aq .add G T λU=>cJ .i64 U λV=>aq .rem V b λW=>z W c))
def ady(H:Nl prog q r h K):aF prog 41 #[q,r] h K:=aG H func41
def Nn:=ah P 41 [a,I 12] y λc b=>aq .lss c (I 3) λd=>aA d (z (I 0) b) (aq .lss c (I 10) λe=>aA e (ah P 41 [a,I 9] b λf g=>aq .add (I 1) f λi=>z i g) (aq .lss c (I 11) λj=>aA j (ah P 41 [a,I 20] b λk l=>aq .mul (I 100) k λm=>z m l) (ah P 41 [a,I 2] b λn o=>aq .sub (I 2147483647) n λp=>z p o)))
def adz(H:Nn prog q h K):aF prog 42 #[q] h K:=aG H func42
def Np:=aq .lss k a λg=>aA g (aY 2 b k λi=>bq 2 y i λj=>aB 117 (.agg #[.nilFunc,I 0]) y λd l=>aD 2 d j l λu e=>au 0 d λm=>ag e m λn=>bq 5 e c λo=>aX P n [o].toArray e λp f=>bY .not p λq=>aA q (au 1 d λr=>ag f r λs=>aV [I 0,I 0,I 0,I 0] [(0,1,s)] λt=>aB 120 t f λv w=>Z (.iface 122 v) w) (aq .add k (I 1) λx=>z x f)) (Z .nilIface y)
def Nq:=aB 35 a y λp2 c=>bB b λd=>bI (σ:=bt [9]) (λx hh e=>Np P d b p2 z x.1 hh (λa0 hz=>e (a0,()) hz)) (I 0,()) c
def adA(H:Nq prog q r h K):aF prog 43 #[q,r] h K:=aG H func43 [(3,[9])]
def Nr(P:Program)(b:Value)(h:af)(K:KT):Prop:=aB 35 b h λp1 a=>au 0 p1 λc=>ag a c λd=>aq .geq d (I 0) λe=>aA e (au 0 p1 λf=>ag a f λg=>aq .leq g (I 16) λi=>K i a) (K (.bool false) a)
def adB(H:Nr prog q h K):aF prog 44 #[q] h K:=aG H func44
def Ns:=aB 35 a y λp1 c=>au 1 p1 λd=>ag c d λe=>ah P 17 [] c λf b=>(ag b d λg=>g=e)/\(dP (.int .i64) .nilFunc false b f e λi=>bL true .func i .nilFunc λj=>z j b)
def adC(H:Ns prog q h K):aF prog 45 #[q] h K:=aG H func45
def Nt:=aB 35 a y λp1 c=>au 3 p1 λd=>ag c d λe=>ah P 21 [] c λf b=>(ag b d λg=>g=e)/\(dP (.int .i64) .nilFunc false b f e λi=>bL true .func i .nilFunc λj=>z j b)
def adD(H:Nt prog q h K):aF prog 46 #[q] h K:=aG H func46
def Nu(P:Program)(b:Value)(h:af)(K:KT):Prop:=aB 35 b h λp1 a=>au 3 p1 λc=>ag a c λd=>aq .eql d (I 0) λe=>aA e (K (.bool true) a) (au 4 p1 λf=>ag a f λg=>aq .geq g (I 1) λi=>aA i (au 4 p1 λj=>ag a j λk=>aq .leq k (I 256) λl=>K l a) (K (.bool false) a))
def adE(H:Nu prog q h K):aF prog 47 #[q] h K:=aG H func47
def Nv:=aB 32 a y λr1 e=>aB 39 .nilIface e λb c=>bq 4 c r1 λf=>ah P 114 [f] c λj g=>aD 1 b .nilIface g λu i=>js P 113 #[b] i λd=>ag d b λres=>z res d
def adF{a:Value}(H:Nv prog a h K):aF prog 48 #[a] h K:=
 F5 (g:=113) (A:=cL (Tryz.f48.body.getD .skip)) (B:=cR (cR (Tryz.f48.body.getD .skip))) (lR:=(eX (cL (Tryz.f48.body.getD .skip)) 0 []).1) (iF:=(eX (cR (cR (Tryz.f48.body.getD .skip))) 0 []).1) (id:=uN (cL (cR (Tryz.f48.body.getD .skip)))) (o1:=cO 0 (cL (cR (Tryz.f48.body.getD .skip)))) (o2:=cO 1 (cL (cR (Tryz.f48.body.getD .skip)))) (s:=3) (caps:= #[.tmp 2]) (c:={callee:=.value (.tmp 3),args:= #[],argTypes:= #[]})
  func48 bn bn bn iC bn bn bn bn rfl rfl bn bn
  (Eq.mpr bn H)
def Nw:=aB 32 a y λb d=>bq 4 d b λe=>aV [I 0,aE,aE,aE,aE,aE] [(0,4,e)] λf=>aB 184 f d λc g=>aX P (.func (.func 116) #[] #[b]) [(.func (.func 117) #[] #[])].toArray g λi j=>aX P (.func (.func 116) #[] #[b]) [(.func (.func 118) #[] #[])].toArray j λk l=>aI c λm=>au 4 m λn=>aD 1 n i l λu o=>aI c λp=>au 5 p λq=>aD 1 q k o λs r=>z c r
def adG(H:Nw prog q h K):aF prog 50 #[q] h K:=aG H func50
def Nx:=aB 32 a y λb n=>aB 32 (.agg #[I 0,aE,aE,aE]) n λg c=>au 1 b λo=>ag c o λp=>au 2 b λi=>ag c i λj=>au 3 b λd=>ag c d λe=>ah P 119 [p] c λq f=>(ag f i λr=>r=j)/\(ag f d λs=>s=e)/\(au 1 b λt=>ah P 119 [j] f λv k=>(ag k d λw=>w=e)/\(ah P 120 [e] k λx A=>aD 1 t q A λu B=>au 2 b λC=>aD 1 C v B λG D=>au 3 b λE=>aD 1 E x D λH l=>bq 4 l b λF=>aD 4 g F l λJ m=>bq 4 m g λres=>z res m))
def adH(H:Nx prog q h K):aF prog 51 #[q] h K:=aG H func51
def Ny:=aB 3 a y λe f=>bH f λg i=>aB 170 (.map none) i λc j=>aD 1 c g j λu d=>bB b λk=>aq .leq k (I 16) λl=>aA l (ah P 122 [b,(.func (.func 121) #[] #[c,e])] d λm n=>bY .not m λo=>z o n) (z (.bool false) d)
def adI(H:Ny prog q r h K):aF prog 52 #[q,r] h K:=aG H func52
def adJ(P:Program)(s0:Value)(h:af)(K:KT):Prop:=bL false .slice s0 aE λa=>aA a (K aE h) (uX 3 (bO [I 0] 0) [] 0 h λb c=>uY 3 1 8 [I 0] b s0 c λd e=>K d e)
def Nz(H:adJ prog q h K):aF prog 53 #[q] h K:=aG H func53
def NA:=ah P 123 [aE,a] y λb c=>z b c
def adK(H:NA prog q h K):aF prog 54 #[q] h K:=aG H func54
def GA(P:Program)(a b c:Value)(h:af)(K:KT):Prop:=aB 47 a h λn3 d=>aB 43 b d λe f=>aB 46 c f λg i=>K (.func (.func 124) #[] #[e,g,n3]) i
def NB(H:GA prog q r s h K):aF prog 55 #[q,r,s] h K:=aG H func55
def NC:=aB 45 (.agg #[aE,aE,aE]) y λc e=>ah P 26 [a,b,(.func (.func 125) #[a] #[]),(.func (.func 126) #[] #[])] e λf g=>aD 3 c f g λu d=>bq 3 d c λres=>z res d
def adL(H:NC prog q r h K):aF prog 56 #[q,r] h K:=aG H func56
def ND(P:Program)(a:Value)(K:KT)(c:af):Prop:=aD 1 a aE c λu b=>ag b a λres=>K res b
def NF(P:Program)(d:af)(b e:Value)(L:Loop)(f:Value)(g:af)(R:Exit->af->Prop):Prop:=iZ (d.size+1) L g λc=>ag c b λi=>uX 3 (bO [I 0] 1) [(0,1,f)] 1 c λj k=>uY 3 1 8 [I 0] i j k λl m=>aD 1 b l m λr a=>ag a b λn=>bB n λo=>ag a e λp=>aq .eql o p λq=>aA q (R (.exit 0) a) (R .normal a)
def zY(P:Program)(a:Value)(d:af)(K:KT)(b:af):Prop:=ag b a λe=>aD 1 a e b λi f=>de (d.size:: []) f λc=>ag c a λg=>K g c
def NG:=aB 3 b y λg j=>aB 43 aE j λd f=>bL false .ptr a (.pointer none) λk=>aA k (ND P d z f) (ag f g λl=>aq .lss l (I 1) λm=>aA m (ND P d z f) (ah P 36 [a] f λn o=>ah P 128 [c,n] o λp q=>ah P 127 [a,p] q λr e=>gO P r [20] (e.size+1) (e.push (.deferred (some []))) (λL x hh R=>NF P e d g L x.1 hh R) (λs=>zY P d e z s) (λt=>de (e.size:: []) t λi=>ag i d λu=>z u i) [(0,(λv=>zY P d e z v))]))
def adM(H:NG prog q r s h K):aF prog 57 #[q,r,s] h K:=aG H func57
def CC(e:Value->KT)(d:Value)(f:af):=uX 3 (bO [I 0] 1) [(0,1,d)] 1 f λg i=>uY 3 1 8 [I 0] a g i λj k=>uX 3 (bO [I 0] 1) [(0,1,d)] 1 k λl m=>ah P 130 [b,l] m λn o=>uY 372 7 152 [I 0,aE,aE,aE,aE,aE,aE] c n o λp q=>e j p q
def NH(d:Value->KT):=bB k λi=>ah P 36 [a] y λj e=>lN b j λm=>aq .lss i m λn=>aA n (ah P 36 [a] e λo p=>ah P 128 [c,o] p λf g=>bB k λq=>aq .gtr q (I 0) λr=>aA r (ah P 129 [a,l,f] g λs t=>CC P k a l d s t) (CC P k a l d f g)) (Z k e)
def NI:=bL false .ptr a (.pointer none) λd=>aA d (z aE y) (bI (σ:=bt [6,7]) (λx hh e=>NH P a b c z x.1 x.2.1 hh (λa0 f hz=>e (a0,(f,())) hz)) (aE,(aE,())) y)
def adN(H:NI prog q r s h K):aF prog 58 #[q,r,s] h K:=aG H func58 [(6,[6,7])]
def NJ(P:Program)(c d e:Value)(K:KT)(b:Value)(a:af)(Z:KT):Prop:=aq .lss b c λf=>aA f (aY 1 d b λg=>ag a g λi=>aY 1 e b λj=>ag a j λk=>aq .neq i k λl=>aA l (K (.bool false) a) (aq .add b (I 1) λm=>Z m a)) (K (.bool true) a)
def NK:=bB a λc=>bB b λd=>aq .neq c d λe=>aA e (z (.bool false) y) (bB a λf=>bI (σ:=bt [13]) (λx hh g=>NJ P f a b z x.1 hh (λa0 hz=>g (a0,()) hz)) (I 0,()) y)
def adO(H:NK prog q r h K):aF prog 59 #[q,r] h K:=aG H func59 [(6,[13])]
def NL(P:Program)(c:Value)(K:KT)(d a:Value)(b:af)(Z:Value->KT):Prop:=bB c λe=>aq .lss a e λf=>aA f (aY 1 c a λg=>ag b g λi=>jR d i λj=>aq .add a (I 1) λk=>Z j k b) (K d b)
def NM:=bB a λb=>aq .lss b (I 1) λc=>aA c (False) (aY 1 a (I 0) λd=>ag y d λe=>bI (σ:=bt [3,4]) (λx hh f=>NL P a z x.1 x.2.1 hh (λa0 g hz=>f (a0,(g,())) hz)) (e,(I 1,())) y)
def adP(H:NM prog q h K):aF prog 60 #[q] h K:=aG H func60 [(6,[3,4])]
def NN(d:Value->KT):=aq .lss l a λe=>aA e (aY 1 b l λf=>ag y f λg=>aX P c [g].toArray y λi j=>uX 3 (bO [I 0] 1) [(0,1,i)] 1 j λm n=>uY 3 1 8 [I 0] k m n λo p=>aq .add l (I 1) λq=>d o q p) (Z k y)
def NO:=bB a λc=>bI (σ:=bt [4,9]) (λx hh d=>NN P c a b z x.1 x.2.1 hh (λa0 e hz=>d (a0,(e,())) hz)) (aE,(I 0,())) y
def adQ(H:NO prog q r h K):aF prog 61 #[q,r] h K:=aG H func61 [(3,[4,9])]
def NP(P:Program)(h:af)(K:KT):Prop:=bH h λb c=>aB 170 (.map none) c λa d=>aD 1 a b d λu e=>K (.func (.func 131) #[] #[a]) e
def adR(H:NP prog h K):aF prog 62 #[] h K:=aG H func62
def NQ(c a:Value)(f:Loop)(g i:Value)(j:af)(k:Exit->af->Prop):=iZ (y.size+1) f j λb=>bq 3 b c λl=>bq 3 b a λd=>ah P 134 [l,g] b λm e=>(bq 3 e a λn=>n=d)/\(ah P 134 [d,i] e λo p=>aD 3 c m p λs q=>aD 3 a o q λt r=>k .normal r)
def NR(b k d i:Value)(l:Loop)(m n:Value)(o:af)(p:Exit->af->Prop):=iZ (y.size+1) l o λa=>ag a b λe=>ag a k λq=>ag a d λf=>ag a i λj=>aX P q [n].toArray a λr c=>(ag c b λs=>s=e)/\(ag c d λt=>t=f)/\(ag c i λu=>u=j)/\(aq .mul r f λv=>aX P j [m].toArray c λw g=>(ag g b λx=>x=e)/\(ag g d λz=>z=f)/\(aq .add v w λA=>uX 3 (bO [I 0] 1) [(0,1,A)] 1 g λB C=>uY 3 1 8 [I 0] e B C λD E=>aD 1 b D E λG F=>p .normal F))
def NS(i j:Value)(k:af):=ah P 133 [a] k λl d=>gO P l [40,41] (d.size+1) (d.push (.deferred (some []))) (λL x hh R=>NR P d b j c i L x.1 x.2.1 hh R) (λe=>ag e b λm=>aD 1 b m e λr n=>de (d.size::(y.size:: [])) n λf=>ag f b λo=>z o f) (λp=>de (d.size::(y.size:: [])) p λg=>ag g b λq=>z q g) []
def NT:=aB 43 aE y λn av=>ah P 132 [b] av λv ax=>bp v 0 λd=>bp v 1 λay=>aB 3 (I 0) ax λr az=>aD 1 r ay az λu w=>aq .eql d (I 0) λaC=>aA aC (aD 1 n aE w λcr A=>ag A n λres=>z res A) (aB 226 (.agg #[I 0,I 0,.bool false]) w λB aF=>aB 226 (.agg #[I 0,I 0,.bool false]) aF λe aG=>ah P 133 [a] aG λaH k=>gO P aH [24,25] (k.size+1) (k.push (.deferred (some []))) (λL x hh R=>NQ P k B e L x.1 x.2.1 hh R) (λf=>akV (σ:=bt [11,12]) (λJ=>bq 3 f B λl=>ag f r λm=>bq 3 f e λc=>(ah P 135 [l,m] f λg o=>(bq 3 o e λaI=>aI=c)/\((ah P 135 [c,d] o λC D=>(aB 231 .nilFunc D λE aJ=>aB 231 .nilFunc aJ λF aK=>aD 1 E g aK λct aL=>aD 1 F C aL λcu aM=>J (E,(F,())) aM)/\(aB 231 .nilFunc D λG aN=>aB 231 .nilFunc aN λH aO=>aD 1 H g aO λcv aP=>aD 1 G C aP λcw aQ=>J (H,(G,())) aQ))/\(aB 231 .nilFunc o λp M=>(ah P 135 [c,d] M λaR aS=>aB 231 .nilFunc aS λN aT=>aD 1 p g aT λcz aU=>aD 1 N aR aU λcA aV=>J (p,(N,())) aV)/\(aB 231 .nilFunc M λO aW=>ah P 135 [c,d] aW λaX aY=>aD 1 p g aY λcB aZ=>aD 1 O aX aZ λcC bf=>J (p,(O,())) bf))/\(aB 231 .nilFunc o λq Q=>(ah P 135 [c,d] Q λbg bh=>aB 231 .nilFunc bh λS bk=>aD 1 S g bk λcD bl=>aD 1 q bg bl λcE bn=>J (S,(q,())) bn)/\(aB 231 .nilFunc Q λT br=>ah P 135 [c,d] br λbu bw=>aD 1 T g bw λcF bx=>aD 1 q bu bx λcG bz=>J (T,(q,())) bz))))/\(aB 231 .nilFunc f λi U=>(ah P 135 [l,m] U λV s=>(bq 3 s e λbA=>bA=c)/\((ah P 135 [c,d] s λbB bC=>aB 231 .nilFunc bC λW bD=>aD 1 i V bD λcH bE=>aD 1 W bB bE λcI bF=>J (i,(W,())) bF)/\(aB 231 .nilFunc s λX bG=>ah P 135 [c,d] bG λbH bI=>aD 1 i V bI λcJ bJ=>aD 1 X bH bJ λcK bK=>J (i,(X,())) bK)))/\(aB 231 .nilFunc U λY bL=>ah P 135 [l,m] bL λbM Z=>(bq 3 Z e λbN=>bN=c)/\(ah P 135 [c,d] Z λbO bP=>aD 1 i bM bP λcL bQ=>aD 1 Y bO bQ λcM bR=>J (i,(Y,())) bR)))/\(aB 231 .nilFunc f λj aa=>(ah P 135 [l,m] aa λaf t=>(bq 3 t e λbS=>bS=c)/\((ah P 135 [c,d] t λbT bU=>aB 231 .nilFunc bU λai bV=>aD 1 ai af bV λcN bW=>aD 1 j bT bW λcO bX=>J (ai,(j,())) bX)/\(aB 231 .nilFunc t λaj bY=>ah P 135 [c,d] bY λbZ b5=>aD 1 aj af b5 λcP b6=>aD 1 j bZ b6 λcQ b7=>J (aj,(j,())) b7)))/\(aB 231 .nilFunc aa λak b8=>ah P 135 [l,m] b8 λb9 an=>(bq 3 an e λcc=>cc=c)/\(ah P 135 [c,d] an λcg cj=>aD 1 ak b9 cj λcR ck=>aD 1 j cg ck λcS cm=>J (ak,(j,())) cm)))) (λx hh=>NS P a n r k z x.1 x.2.1 hh)) (λcn=>de (k.size:: []) cn λau=>ag au n λcq=>z cq au) [])
def adS(H:NT prog q r h K):aF prog 64 #[q,r] h K:=aG H func64 [(9,[11,12])]
def CD(P:Program)(K:KT)(a:af):Prop:=K aE a
def NU:=aq .lss k a λf=>aA f (aY 1 b k λg=>aD 1 g k y λu i=>aq .add k (I 1) λj=>z j i) (ah P 136 [c,b,d] y λo e=>aI c λl=>au 1 l λm=>ag e m λn=>Z n e)
def NV:=bL false .ptr a (.pointer none) λf=>aA f (CD P z y) (aq .lss b (I 1) λg=>aA g (CD P z y) (aq .gtr b (I 256) λi=>aA i (CD P z y) (ah P 36 [a] y λc j=>dG 3 8 [I 0] c c j λk l=>aV [.pointer none,aE,I 0] [(0,1,a),(1,1,k)] λm=>aB 235 m l λn o=>ah P 36 [a] o λd p=>dG 3 8 [I 0] d d p λe q=>bB e λr=>bI (σ:=bt [29]) (λx hh s=>NU P r e n b z x.1 hh (λa0 hz=>s (a0,()) hz)) (I 0,()) q)))
def adT(H:NV prog q r h K):aF prog 65 #[q,r] h K:=aG H func65 [(8,[29])]
def NW:=ah P 36 [a] y λd c=>aq .gtr d (I 0) λe=>aA e (ah P 137 [b] c λf g=>bB f λi=>ah P 36 [a] g λj k=>aq .eql i j λl=>z l k) (z (.bool false) c)
def adU(H:NW prog q r h K):aF prog 66 #[q,r] h K:=aG H func66
def GB(P:Program)(K:KT)(a:af):Prop:=K (.pointer none) a
def CE(P:Program)(a b d:Value)(K:KT)(e:af):Prop:=aq .mul a b λc=>dG 5 1 [.int .u8 0] c c e λf g=>aV [I 0,I 0,I 0,aE] [(0,1,a),(1,1,d),(2,1,b),(3,1,f)] λi=>aB 238 i g λj k=>K j k
def NX:=aq .lss a (I 0) λd=>aA d (GB P z y) (aq .lss b (I 0) λe=>aA e (GB P z y) (aq .gtr b (I 67108864) λf=>aA f (GB P z y) (aq .add b (I 8) λg=>aq .sub g (I 1) λi=>aq .quo i (I 8) λc=>aq .gtr c (I 0) λj=>aA j (aq .quo (I 268435456) c λk=>aq .gtr a k λl=>aA l (z (.pointer none) y) (CE P a c b z y)) (CE P a c b z y))))
def adV(H:NX prog q r h K):aF prog 67 #[q,r] h K:=aG H func67
def NY(P:Program)(a:Value)(h:af)(K:KT):Prop:=bL false .ptr a (.pointer none) λb=>aA b (K (I 0) h) (aI a λc=>au 1 c λd=>ag h d λe=>K e h)
def adW(H:NY prog q h K):aF prog 68 #[q] h K:=aG H func68
def NZ(P:Program)(a:Value)(h:af)(K:KT):Prop:=bL false .ptr a (.pointer none) λb=>aA b (K (I 0) h) (aI a λc=>au 0 c λd=>au 3 d λe=>ag h e λf=>bB f λg=>K g h)
def adX(H:NZ prog q h K):aF prog 69 #[q] h K:=aG H func69
def N0(P:Program)(a b c:Value)(h:af)(K:KT):Prop:=aB 47 a h λn3 d=>aB 49 b d λc4 e=>aB 3 c e λk5 f=>K (.func (.func 138) #[] #[n3,c4,k5]) f
def adY(H:N0 prog q r s h K):aF prog 70 #[q,r,s] h K:=aG H func70
def N1:=aB 4 d y λe f=>ah P 145 [a,b,c,(.func (.func 146) #[] #[e])] f λg i=>z g i
def adZ(H:N1 prog q r s t h K):aF prog 71 #[q,r,s,t] h K:=aG H func71
def N2(P:Program)(K:KT)(a:af):Prop:=K (.tuple #[(.string ⟨#[]⟩),I 2]) a
def N3:=aq .lss m a λi=>aA i (aY 2 b m λj=>bq 2 y j λn=>aB 157 (.agg #[I 0,(.string ⟨#[]⟩)]) y λc o=>aD 2 c n o λu d=>au 0 c λp=>ag d p λq=>aq .lss q (I 0) λr=>aA r (N2 P Z d) (au 0 c λs=>ag d s λt=>aq .gtr t (I 255) λv=>aA v (N2 P Z d) (au 0 c λw=>ag d w λx=>cJ .u8 x λA=>uX 5 (bO [.int .u8 0] 1) [(0,1,A)] 1 d λB C=>ah P 149 [k,B] C λaz e=>au 1 c λD=>ag e D λE=>fQ E λF=>cJ .u64 F λG=>uX 251 (bO [.int .u64 0] 1) [(0,1,G)] 1 e λH J=>ah P 150 [k,H] J λaC f=>au 1 c λL=>ag f L λM=>ah P 152 [M] f λN O=>uX 253 (bO [.int .u32 0] 1) [(0,1,N)] 1 O λQ R=>ah P 151 [k,Q] R λaE g=>au 1 c λS=>ag g S λT=>ah P 148 [l,T] g λaF U=>aq .add m (I 1) λV=>z V U))) (ah P 153 [k] y λW X=>ah P 152 [W] X λY aa=>uX 253 (bO [.int .u32 0] 1) [(0,1,Y)] 1 aa λaf ai=>ah P 151 [k,af] ai λaG aj=>ah P 153 [k] aj λak an=>ah P 153 [l] an λav ax=>aq .add ak av λay=>Z (.tuple #[ay,I 0]) ax)
def N4:=bB a λc=>aq .gtr c (I 16) λd=>aA d (z (.tuple #[(.string ⟨#[]⟩),I 2]) y) (ah P 147 [] y λb e=>ah P 147 [] e λf g=>ah P 148 [b,(.string ⟨#[77,73,76,69,49,1]⟩)] g λq i=>bB a λj=>cJ .u8 j λk=>uX 5 (bO [.int .u8 0] 1) [(0,1,k)] 1 i λl m=>ah P 149 [b,l] m λr n=>bB a λo=>bI (σ:=bt [23]) (λx hh p=>N3 P o a z b f x.1 hh (λa0 hz=>p (a0,()) hz)) (I 0,()) n)
def ad0(H:N4 prog q h K):aF prog 72 #[q] h K:=aG H func72 [(9,[23])]
def CF(P:Program)(a:Value)(Z:Value->KT)(b:Value)(c:af):Prop:=aq .add a (I 1) λd=>Z b d c
def GC(d:Value->KT):=aq .lss l (I 4) λi=>aA i (pQ 3 4 a l λj=>aB 256 (.agg #[I 0,.bool false,.nilFunc]) y λc m=>aD 3 c j m λu b=>au 1 c λn=>ag b n λo=>aA o (au 0 c λe=>ag b e λf=>au 2 c λp=>ag b p λq=>aX P q [].toArray b λr g=>(ag g e λs=>s=f)/\(aV [I 0,(.string ⟨#[]⟩)] [(0,1,f),(1,1,r)] λt=>uX 157 (bO [I 0,(.string ⟨#[]⟩)] 1) [(0,2,t)] 1 g λv w=>uY 157 2 24 [I 0,(.string ⟨#[]⟩)] k v w λx z=>CF P l d x z)) (CF P l d k b)) (Z k y)
def N5:=aB 37 a y λc b=>ag b c λd=>aV [I 0,.bool false,.nilFunc] [(0,1,I 1),(1,1,.bool true),(2,1,(.func (.func 154) #[d] #[]))] λe=>ag b c λf=>aI f λg=>au 1 g λi=>ag b i λj=>bL true .ptr j (.pointer none) λk=>ag b c λl=>aV [I 0,.bool false,.nilFunc] [(0,1,I 2),(1,1,k),(2,1,(.func (.func 155) #[l] #[]))] λm=>ag b c λn=>aI n λo=>au 2 o λp=>ag b p λq=>bL true .ptr q (.pointer none) λr=>ag b c λs=>aV [I 0,.bool false,.nilFunc] [(0,1,I 3),(1,1,r),(2,1,(.func (.func 156) #[s] #[]))] λt=>ag b c λu=>aI u λv=>au 2 v λw=>ag b w λA=>bL true .ptr A (.pointer none) λB=>aV [I 0,.bool false,.nilFunc] [(0,1,I 4),(1,1,B),(2,1,(.func (.func 157) #[] #[c]))] λC=>aV [I 0,.bool false,.nilFunc,I 0,.bool false,.nilFunc,I 0,.bool false,.nilFunc,I 0,.bool false,.nilFunc] [(0,3,e),(3,3,m),(6,3,t),(9,3,C)] λD=>bI (σ:=bt [2,32]) (λx hh E=>GC P D z x.1 x.2.1 hh (λa0 F hz=>E (a0,(F,())) hz)) (aE,(I 0,())) b
def ad1(H:N5 prog q h K):aF prog 73 #[q] h K:=aG H func73 [(3,[2,32])]
def N6:=aB 148 aE y λl2 d=>aB 60 (I 0) d λb e=>ah P 160 [a] e λf g=>aV [.pointer none,(.string ⟨#[]⟩)] [(0,1,f),(1,1,a)] λi=>aB 263 i g λj k=>ah P 161 [j] k λl m=>aD 1 l2 l m λu n=>aD 1 b (I 0) n λq o=>js P 159 #[l2,b] o λc=>ag c l2 λres=>ag c b λp=>z (.tuple #[res,p]) c
def ad2{s0:Value}(H:N6 prog s0 h K):aF prog 74 #[s0] h K:=
 F5 (g:=159) (A:=cL (Tryz.f74.body.getD .skip)) (B:=cR (cR (Tryz.f74.body.getD .skip))) (lR:=(eX (cL (Tryz.f74.body.getD .skip)) 0 []).1) (iF:=(eX (cR (cR (Tryz.f74.body.getD .skip))) 0 []).1) (id:=uN (cL (cR (Tryz.f74.body.getD .skip)))) (o1:=cO 0 (cL (cR (Tryz.f74.body.getD .skip)))) (o2:=cO 1 (cL (cR (Tryz.f74.body.getD .skip)))) (s:=5) (caps:= #[.tmp 2,.tmp 3]) (c:={callee:=.value (.tmp 5),args:= #[],argTypes:= #[]})
  func74 bn bn bn iC bn bn bn bn rfl rfl bn bn
  (Eq.mpr bn H)
def N7:=ag y b λc=>bB c λd=>bB a λe=>aq .geq d e λf=>aA f (ag y b λg=>bB a λi=>eW 2 g none (some i) none λj=>ah P 77 [j,a,(.func (.func 78) #[] #[])] y λk l=>z k l) (z (.bool false) y)
def ad3(H:N7 prog q r h K):aF prog 76 #[q,r] h K:=aG H func76
def N8:=aq .lss k a λi=>aA i (aY 2 b k λj=>bq 2 y j λl=>aB 157 (.agg #[I 0,(.string ⟨#[]⟩)]) y λf m=>aD 2 f l m λu e=>aY 1 c k λn=>ag e n λo=>bq 2 e f λp=>aX P d [p,o].toArray e λq g=>bY .not q λr=>aA r (Z (.bool false) g) (aq .add k (I 1) λs=>z s g)) (Z (.bool true) y)
def N9:=bB a λd=>bB b λe=>aq .neq d e λf=>aA f (z (.bool false) y) (bB a λg=>bI (σ:=bt [17]) (λx hh i=>N8 P g a b c z x.1 hh (λa0 hz=>i (a0,()) hz)) (I 0,()) y)
def ad4(H:N9 prog q r s h K):aF prog 77 #[q,r,s] h K:=aG H func77 [(6,[17])]
def Oa(P:Program)(s0 b:Value)(h:af)(K:KT):Prop:=aB 157 s0 h λs2 a=>au 0 s2 λc=>ag a c λd=>aq .eql d b λe=>K e a
def ad5(H:Oa prog q r h K):aF prog 78 #[q,r] h K:=aG H func78
def Ob(P:Program)(a b:Value)(h:af)(K:KT):Prop:=bY .not a λc=>aA c (aV [I 0] [(0,1,b)] λd=>False) (K (.tuple #[]) h)
def ad6(H:Ob prog q r h K):aF prog 79 #[q,r] h K:=aG H func79
def Oc:=aq .lss k a λr=>aA r (au 1 b λj=>ag y j λl=>au 2 b λf=>ag y f λg=>ah P 163 [c] y λs i=>(ag i j λt=>t=l)/\(ag i f λu=>u=g)/\(uX 2 (bO [I 0] 1) [(0,1,s)] 1 i λv w=>uY 2 1 8 [I 0] l v w λx m=>(ag m f λA=>A=g)/\(au 1 b λB=>ah P 163 [c] m λC n=>(ag n f λD=>D=g)/\(uX 2 (bO [I 0] 1) [(0,1,C)] 1 n λE F=>uY 2 1 8 [I 0] g E F λG H=>aD 1 B x H λaj J=>au 2 b λL=>aD 1 L G J λak M=>aq .add k (I 1) λN=>z N M)))) (ah P 164 [d,(.func (.func 165) #[] #[e])] y λO Q=>au 3 b λR=>aD 1 R O Q λan o=>bq 4 o b λS=>ah P 48 [S] o λT U=>bL false .iface T .nilIface λV=>ah P 79 [V,I 25] U λav p=>bq 4 p b λW=>ah P 15 [W] p λq X=>bp q 0 λY=>bp q 1 λaa=>bL false .iface aa .nilIface λaf=>ah P 79 [af,I 25] X λax ai=>Z Y ai)
def CG:=aV [I 0,aE,aE,aE] [(0,1,a)] λf=>aB 32 (.agg #[I 0,aE,aE,aE]) y λe g=>aD 4 e f g λk i=>bI (σ:=bt [43]) (λx hh j=>Oc P a e b c d Z x.1 hh (λa0 hz=>j (a0,()) hz)) (I 0,()) i
def Od:=fQ a λk=>aq .geq k (I 8) λl=>ah P 79 [l,I 25] y λH m=>ah P 160 [a] m λe n=>ah P 162 [e] n λo p=>aB 104 .nilFunc p λb q=>aD 1 b o q λu f=>ag f b λr=>ag f b λi=>aX P r [].toArray f λc j=>(ag j b λs=>s=i)/\(aX P i [].toArray j λd g=>aq .leq c (I 16777216) λt=>aA t (aq .leq d (I 67108864) λv=>aA v (fQ a λw=>aq .mul (I 16) c λx=>aq .add (I 8) x λA=>aq .mul (I 12) d λB=>aq .add A B λC=>aq .eql w C λD=>ah P 79 [D,I 25] g λJ E=>CG P c e d b z E) (ah P 79 [.bool false,I 25] g λL F=>CG P c e d b z F)) (ah P 79 [.bool false,I 25] g λM G=>CG P c e d b z G))
def ad7(H:Od prog q h K):aF prog 80 #[q] h K:=aG H func80 [(9,[43])]
def GD(P:Program)(a:Value)(b:KT)(c:af):Prop:=aq .add a (I 1) λd=>b d c
def Oe:=aq .lss k a λf=>aA f (aY 1 b k λg=>ag y g λd=>ah P 170 [c,k,d] y λi e=>aq .eql i (I 0) λj=>aA j (ah P 171 [c,k,d] e λl m=>aq .eql l (I 0) λn=>ah P 79 [n,I 25] m λq o=>GD P k z o) (ah P 79 [.bool false,I 25] e λr p=>GD P k z p)) (Z c y)
def Of:=aq .lss k a λr=>aA r (aq .rem k (I 2) λs=>aq .rem k (I 2) λt=>b9 1 2 b t λf=>ag y f λg=>ah P 36 [c] y λv j=>(ag j f λw=>w=g)/\(ah P 168 [v,(.func (.func 163) #[d] #[])] j λA l=>(ag l f λB=>B=g)/\(uX 29 (bO [aE] 1) [(0,1,A)] 1 l λC D=>uY 29 1 24 [aE] g C D λE F=>b9 1 2 b s λG=>aD 1 G E F λu H=>aq .add k (I 1) λJ=>z J H))) (b9 1 2 b (I 0) λm=>ag y m λn=>b9 1 2 b (I 1) λo=>ag y o λp=>ah P 36 [c] y λL i=>(ag i m λM=>M=n)/\(ag i o λN=>N=p)/\(ah P 169 [L,e,n,p] i λq O=>bL true .ptr q (.pointer none) λQ=>ah P 79 [Q,I 25] O λU R=>bB e λS=>bI (σ:=bt [74]) (λx hh T=>Oe P S e q Z x.1 hh (λa0 hz=>T (a0,()) hz)) (I 0,()) R))
def CH:=ah P 162 [a] y λd e=>ah P 167 [b,d] e λf g=>aB 269 (.agg #[aE,aE]) g λi j=>aq .mul (I 2) b λk=>bI (σ:=bt [43]) (λx hh l=>Of P k i c a f Z x.1 hh (λa0 hz=>l (a0,()) hz)) (I 0,()) j
def Og:=ah P 160 [b] y λd f=>ah P 166 [d] f λg e=>cJ .i64 g λc=>aq .geq c (I 1) λi=>aA i (aq .leq c (I 16) λj=>aA j (fQ b λk=>ah P 36 [a] e λl m=>aq .mul (I 16) l λn=>aq .add (I 4) n λo=>aq .mul c o λp=>aq .add (I 1) p λq=>aq .eql k q λr=>ah P 79 [r,I 25] m λv s=>CH P d c a z s) (ah P 79 [.bool false,I 25] e λw t=>CH P d c a z t)) (ah P 79 [.bool false,I 25] e λx u=>CH P d c a z u)
def ad8(H:Og prog q r h K):aF prog 81 #[q,r] h K:=aG H func81 [(8,[43]),(17,[74])]
def Oh:=fQ b λg=>ah P 36 [a] y λi j=>aq .eql g i λk=>ah P 79 [k,I 25] j λG l=>ah P 160 [b] l λm n=>aB 260 (.pointer none) n λe o=>aD 1 e m o λu p=>fQ b λq=>ah P 167 [q,(.func (.func 172) #[] #[e])] p λr s=>ah P 19 [r] s λd t=>bL true .ptr d (.pointer none) λv=>ah P 79 [v,I 25] t λH w=>ah P 68 [d] w λx A=>ah P 69 [a] A λB C=>ah P 173 [x,B,c] C λf D=>bL true .ptr f (.pointer none) λE=>ah P 79 [E,I 25] D λJ F=>z (.tuple #[d,f]) F
def ad9(H:Oh prog q r s h K):aF prog 82 #[q,r,s] h K:=aG H func82
def Oi(P:Program)(c d e:Value)(K:KT)(b:Value)(a:af)(Z:KT):Prop:=aq .lss b c λf=>aA f (aY 2 d b λg=>bq 2 a g λi=>aY 2 e b λj=>bq 2 a j λk=>uy .neq i k λl=>aA l (K (.bool false) a) (aq .add b (I 1) λm=>Z m a)) (K (.bool true) a)
def Oj:=bB a λc=>bB b λd=>aq .neq c d λe=>aA e (z (.bool false) y) (bB a λf=>bI (σ:=bt [13]) (λx hh g=>Oi P f a b z x.1 hh (λa0 hz=>g (a0,()) hz)) (I 0,()) y)
def aea(H:Oj prog q r h K):aF prog 83 #[q,r] h K:=aG H func83 [(6,[13])]
def Ol(P:Program)(a:Value)(h:af)(K:KT):Prop:=bH h λb c=>aV [aE,.map none] [(1,1,b)] λd=>jR a (I 0) λe=>aV [aE,.map none,I 0] [(0,2,d),(2,1,e)] λf=>aB 278 f c λg i=>K g i
def aeb(H:Ol prog q h K):aF prog 84 #[q] h K:=aG H func84
def Om(P:Program)(a:af):Prop:=False
def On(P:Program)(a:Value)(K:KT)(b:Value)(c:af)(Z:KT):Prop:=bB a λd=>aq .lss b d λe=>aA e (eW 1 a (some b) none none λf=>eW 1 a none (some b) none λg=>kZ 1 f g c λi j=>aq .add b i λk=>Z k j) (K a c)
def Oo:=aq .lss b (I 0) λi=>aA i (False) (bB a λj=>cJ .u64 j λk=>cJ .u64 b λl=>ah P 174 [k,l] y λd c=>bp d 0 λm=>bp d 1 λe=>aq .gtr m (.int .u64 0) λn=>aA n (Om P c) (aq .gtr e (.int .u64 9223372036854775807) λo=>aA o (Om P c) (cJ .i64 e λf=>dG 2 8 [I 0] f f c λg p=>kZ 1 g a p λq r=>bI (σ:=bt [8]) (λx hh s=>On P g z x.1 hh (λa0 hz=>s (a0,()) hz)) (q,()) r)))
def aec(H:Oo prog q r h K):aF prog 85 #[q,r] h K:=aG H func85 [(9,[8])]
def Oq(P:Program)(a:af):Prop:=False
def Ot(P:Program)(a:Value)(K:KT)(b:Value)(c:af)(Z:KT):Prop:=bB a λd=>aq .lss b d λe=>aA e (eW 1 a (some b) none none λf=>eW 1 a none (some b) none λg=>kZ 1 f g c λi j=>aq .add b i λk=>Z k j) (K a c)
def Ou:=aq .lss b (I 0) λi=>aA i (False) (bB a λj=>cJ .u64 j λk=>cJ .u64 b λl=>ah P 174 [k,l] y λd c=>bp d 0 λm=>bp d 1 λe=>aq .gtr m (.int .u64 0) λn=>aA n (Oq P c) (aq .gtr e (.int .u64 9223372036854775807) λo=>aA o (Oq P c) (cJ .i64 e λf=>dG 3 8 [I 0] f f c λg p=>kZ 1 g a p λq r=>bI (σ:=bt [8]) (λx hh s=>Ot P g z x.1 hh (λa0 hz=>s (a0,()) hz)) (q,()) r)))
def aed(H:Ou prog q r h K):aF prog 86 #[q,r] h K:=aG H func86 [(9,[8])]
def GF(P:Program)(K:KT)(a:af):Prop:=K (I 2) a
def Ov:=bL false .ptr a (.pointer none) λg=>aA g (z (I 1) y) (aI a λi=>au 0 i λj=>au 1 j λk=>ag y k λl=>dP (.int .i64) (I 0) true y l b λd=>bp d 0 λai=>bp d 1 λm=>aA m (GF P z y) (aq .lss b (I 0) λn=>aA n (GF P z y) (aI a λo=>au 2 o λp=>ag y p λq=>aq .geq b q λr=>aA r (GF P z y) (aI a λs=>au 0 s λt=>au 1 t λv=>ag y v λw=>aI a λx=>au 0 x λA=>au 0 A λB=>ag y B λC=>bB C λD=>e9 (.int .i64) w b D y λu e=>aI a λE=>au 0 E λF=>au 0 F λG=>ag e G λH=>aV [I 0,I 0] [(0,1,b),(1,1,c)] λJ=>uX 283 (bO [I 0,I 0] 1) [(0,2,J)] 1 e λL M=>uY 283 2 16 [I 0,I 0] H L M λN O=>aI a λQ=>au 0 Q λR=>au 0 R λS=>aD 1 S N O λaj f=>aI a λT=>au 0 T λU=>aI a λV=>au 0 V λW=>au 0 W λX=>ag f X λY=>bB Y λZ=>aq .sub Z (I 1) λaa=>ah P 175 [U,aa] f λak af=>z (I 0) af))))
def aee(H:Ov prog q r s h K):aF prog 87 #[q,r,s] h K:=aG H func87
def Ow:=ah P 176 [a] y λl b=>aq .eql l (I 0) λm=>aA m (z (.tuple #[I 0,I 0,.bool false]) b) (aI a λn=>au 0 n λo=>au 0 o λp=>ag b p λq=>aY 2 q (I 0) λr=>bq 2 b r λs=>aI a λt=>au 0 t λv=>au 0 v λf=>ag b f λg=>bB g λw=>aq .sub w (I 1) λi=>aB 283 (.agg #[I 0,I 0]) b λc x=>aD 2 c s x λu j=>(ag j f λA=>A=g)/\(aI a λB=>au 0 B λC=>ah P 177 [C,I 0,i] j λaf k=>aI a λD=>au 0 D λE=>au 0 E λF=>ag k F λG=>eW 2 G none (some i) none λH=>aI a λJ=>au 0 J λL=>au 0 L λM=>aD 1 M H k λai d=>aI a λN=>au 0 N λO=>au 1 O λQ=>ag d Q λR=>au 0 c λS=>ag d S λT=>uD (.int .i64) R T d λaj U=>aI a λV=>au 0 V λW=>ah P 178 [W,I 0] U λak e=>au 0 c λX=>ag e X λY=>au 1 c λZ=>ag e Z λaa=>z (.tuple #[Y,aa,.bool true]) e))
def aef(H:Ow prog q h K):aF prog 88 #[q] h K:=aG H func88
def Ox(P:Program)(a b c:Value)(h:af)(K:KT):Prop:=aB 47 a h λn3 d=>aB 43 b d λe f=>aB 91 c f λg i=>K (.func (.func 179) #[] #[e,n3,g]) i
def aeg(H:Ox prog q r s h K):aF prog 89 #[q,r,s] h K:=aG H func89
def CI(P:Program)(b c d:Value)(K:KT)(a:af):Prop:=aI b λe=>au 1 e λf=>au 1 f λg=>ag a g λi=>aY 1 i c λj=>aD 1 j d a λu k=>K (.tuple #[]) k
def CJ:=aA a (aI b λf=>au 0 f λg=>ag y g λi=>ah P 182 [i,c,d] y λo j=>CI P b c e Z j) (aI b λk=>au 0 k λl=>ag y l λm=>ah P 87 [m,c,d] y λp n=>CI P b c e Z n)
def Oy:=aI a λi=>au 0 i λj=>ag y j λk=>ah P 181 [k,b] y λg e=>bp g 0 λl=>bp g 1 λf=>aI a λm=>au 4 m λn=>ag e n λo=>dP (.int .i64) (I 0) false e o b λp=>aq .gtr p (I 0) λq=>aA q (z (.tuple #[]) e) (aA f (aq .leq l d λr=>aA r (z (.tuple #[]) e) (CJ P f a b d c z e)) (CJ P f a b d c z e))
def aeh(H:Oy prog q r s t h K):aF prog 90 #[q,r,s,t] h K:=aG H func90
def GG(P:Program)(K:KT)(a:af):Prop:=K (.tuple #[aE,.bool false]) a
def Oz:=aq .lss b (I 0) λc=>aA c (GG P z y) (bB a λd=>aq .geq b d λe=>aA e (GG P z y) (aY 1 a b λf=>ag y f λg=>z (.tuple #[g,.bool true]) y))
def aei(H:Oz prog q r h K):aF prog 91 #[q,r] h K:=aG H func91
def CK(P:Program)(b:af)(s2:Value)(L:Loop)(c:Value)(d:af)(R:Exit->af->Prop):Prop:=iZ (b.size+1) L d λa=>ag a s2 λe=>uX 3 (bO [I 0] 1) [(0,1,c)] 1 a λf g=>uY 3 1 8 [I 0] e f g λi j=>aD 1 s2 i j λu k=>R .normal k
def CL:=aB 43 a y λs2 c=>gO P b [7] (c.size+1) (c.push (.deferred (some []))) (λL x hh R=>CK P c s2 L x.1 hh R) (λd=>ag d s2 λe=>de (c.size:: []) d λf=>z e f) (λg=>de (c.size:: []) g λi=>z aE i) []
def GH(H:CL prog q r h K):aF prog 92 #[q,r] h K:=aG H func92
def GJ(P:Program)(a:Value)(Z:KT)(b:af):Prop:=aq .add a (I 1) λc=>Z c b
def OA:=aq .lss k (I 6) λi=>aA i (pQ 3 6 a k λj=>aB 109 (.agg #[.bool false,.bool false,.nilFunc]) y λe l=>aD 3 e j l λu d=>bq 3 d e λm=>ag d b λn=>ah P 40 [m,n] d λo f=>aA o (aX P c [k].toArray f λp g=>bY .not p λq=>aA q (Z (.tuple #[]) g) (GJ P k z g)) (GJ P k z f)) (Z (.tuple #[]) y)
def OB:=ag y b λd=>ah P 38 [d] y λe c=>bY .not e λf=>aA f (z (.tuple #[]) c) (ah P 39 [] c λg i=>bI (σ:=bt [9]) (λx hh j=>OA P g b a z x.1 hh (λa0 hz=>j (a0,()) hz)) (I 0,()) i)
def aej(H:OB prog q r h K):aF prog 93 #[q,r] h K:=aG H func93 [(3,[9])]
def GK(P:Program)(a:Value)(h:af)(K:KT):Prop:=aB 47 a h λn1 b=>K (.func (.func 183) #[] #[n1]) b
def OC(H:GK prog q h K):aF prog 94 #[q] h K:=aG H func94
def OD:=ah P 184 [a,b] y λc d=>aq .geq c (I 0) λe=>z e d
def aek(H:OD prog q r h K):aF prog 95 #[q,r] h K:=aG H func95
def OE:=aB 100 a y λe f=>au 0 e λo=>ag f o λp=>au 1 e λq=>ag f q λr=>au 2 e λs=>ag f s λt=>aV [I 0,I 0,I 0] [(0,1,p),(1,1,r),(2,1,t)] λv=>aB 190 (.agg #[I 0,I 0,I 0]) f λj w=>aD 3 j v w λu g=>ag g b λi=>bq 3 g j λk=>dP (.array 3 3) (I 0) false g i k λm=>aq .add m (I 1) λx=>mI (.array 3 3) (I 0) i k g λA n=>(dP (.array 3 3) (I 0) false n i k λB=>B=m)/\(bp A 1 λC=>lP i C x n λN l=>ag l c λD=>bq 4 l e λE=>aX P D [E].toArray l λF d=>bY .not F λG=>aA G (z (.bool true) d) (ag d b λH=>bq 3 d j λJ=>dP (.array 3 3) (I 0) false d H J λL=>aq .gtr L (I 1) λM=>z M d))
def ael(H:OE prog q r s h K):aF prog 96 #[q,r,s] h K:=aG H func96
def OG:=aB 100 a y λf g=>ag g b λn=>bq 4 g f λo=>aX P n [o].toArray g λp e=>bY .not p λq=>aA q (z (.bool true) e) (au 0 f λr=>ag e r λs=>aq .eql s (I 0) λt=>aA t (au 1 f λv=>ag e v λw=>au 2 f λx=>ag e x λA=>b9 1 2 c w λB=>aD 1 B A e λu C=>z (.bool false) C) (au 1 f λj=>ag e j λk=>b9 1 2 c k λl=>ag e l λm=>ag e d λD=>au 2 f λE=>ag e E λF=>au 1 f λG=>ag e G λH=>ah P 98 [D,F,H] e λJ i=>(ag i j λL=>L=k)/\(ag i l λM=>M=m)/\(aq .neq m J λN=>z N i)))
def aem(H:OG prog q r s t h K):aF prog 97 #[q,r,s,t] h K:=aG H func97
def OH:=ah P 180 [a,b] y λf g=>bp f 0 λi=>bp f 1 λp=>aB 59 (.agg #[I 0,I 0,I 0]) g λe j=>aD 3 e i j λu d=>aq .eql c (I 1) λk=>aA k (au 1 e λl=>ag d l λm=>z m d) (au 0 e λn=>ag d n λo=>z o d)
def aen(H:OH prog q r s h K):aF prog 98 #[q,r,s] h K:=aG H func98
def OI:=aq .geq b (I 0) λc=>aA c (ah P 36 [a] y λd e=>aq .lss b d λf=>z f e) (z (.bool false) y)
def aeo(H:OI prog q r h K):aF prog 99 #[q,r] h K:=aG H func99
def OJ(P:Program)(a b c:Value)(h:af)(K:KT):Prop:=aB 47 a h λn3 d=>aB 3 b d λe f=>aB 43 c f λg i=>K (.func (.func 185) #[] #[g,n3,e]) i
def aep(H:OJ prog q r s h K):aF prog 100 #[q,r,s] h K:=aG H func100
def OK(P:Program)(a:Value)(h:af)(K:KT):Prop:=bL false .ptr a (.pointer none) λb=>aA b (K (I 0) h) (aI a λc=>au 0 c λd=>ag h d λe=>K e h)
def aeq(H:OK prog q h K):aF prog 101 #[q] h K:=aG H func101
def OL:=bL false .ptr a (.pointer none) λb=>aA b (z aE y) (aI a λc=>au 1 c λd=>ag y d λe=>ah P 53 [e] y λf g=>z f g)
def aer(H:OL prog q h K):aF prog 102 #[q] h K:=aG H func102
def OM:=ah P 66 [a,b] y λd e=>bL true .ptr c (.pointer none) λf=>ah P 187 [c] e λg i=>ah P 68 [b] i λj k=>aq .eql g j λl=>ah P 188 [c] k λm n=>ah P 69 [a] n λo p=>aq .eql m o λq=>uX 4 (bO [.bool false] 4) [(0,1,d),(1,1,f),(2,1,l),(3,1,q)] 4 p λr s=>ah P 186 [r] s λt u=>z t u
def aes(H:OM prog q r s h K):aF prog 103 #[q,r,s] h K:=aG H func103
def ON:=aB 56 b y λg i=>aB 62 (.agg #[I 0,I 0,aE,aE]) i λd c=>aI a λj=>au 0 j λk=>ag c k λl=>aI a λm=>au 1 m λn=>ag c n λo=>aI a λp=>au 2 p λq=>ag c q λr=>aI a λs=>au 3 s λt=>ag c t λv=>aV [.pointer none,.pointer none] [(0,1,r),(1,1,v)] λw=>bq 4 c g λx=>ah P 105 [l,o,w,x] c λe A=>bp e 0 λB=>bp e 1 λC=>aD 4 d B A λu f=>bq 4 f d λres=>z (.tuple #[res,C]) f
def aet(H:ON prog q r h K):aF prog 104 #[q,r] h K:=aG H func104
def OO(c d:Value)(e:Loop)(f g:Value)(i:af)(a:Exit->af->Prop):=iZ (y.size+1) e i λj=>aX P g [].toArray j λk b=>bY .not k λl=>aA l (aV [I 0,I 0,aE,aE] [(0,1,f)] λm=>aD 4 c m b λu n=>aD 1 d aE n λp o=>a .ret o) (a .normal b)
def OP(P:Program)(c d:Value)(g:af)(K:KT)(o b:Value)(a:af):Prop:=au 0 b λp=>ag a p λq=>aq .geq q (I 72057594037927936) λr=>aA r (aV [I 0,I 0,aE,aE] [(0,1,I 20)] λs=>au 2 b λi=>ag a i λj=>aD 4 c s a λG k=>(ag k i λt=>t=j)/\(aD 1 d j k λH u=>de (g.size:: []) u λe=>bq 4 e c λv=>ag e d λw=>K (.tuple #[v,w]) e)) (au 0 b λx=>ag a x λy=>au 1 b λz=>ag a z λA=>aV [I 0,I 0,aE,aE] [(1,1,y),(2,1,A),(3,1,o)] λB=>au 2 b λl=>ag a l λm=>aD 4 c B a λJ n=>(ag n l λC=>C=m)/\(aD 1 d m n λL D=>de (g.size:: []) D λf=>bq 4 f c λE=>ag f d λF=>K (.tuple #[E,F]) f))
def OQ:=aB 201 c y λt aa=>aB 56 d aa λg af=>aB 62 (.agg #[I 0,I 0,aE,aE]) af λm ai=>aB 63 aE ai λn u=>bq 2 u t λaj=>bq 4 u g λak=>aV [.pointer none,.pointer none,.pointer none,.pointer none,I 0,I 0,I 0,I 0] [(0,2,aj),(2,1,a),(3,1,b),(4,4,ak)] λan=>aB 295 an u λv av=>ah P 189 [v] av λax j=>gO P ax [25,26] (j.size+1) (j.push (.deferred (some []))) (λL x hh R=>OO P j m n L x.1 x.2.1 hh R) (λq=>au 1 g λay=>ag q ay λaz=>au 2 g λaC=>ag q aC λaF=>aq .eql az aF λaG=>aA aG (aV [I 0,I 0,aE,aE] [] λaH=>aD 4 m aH q λbW aI=>aD 1 n aE aI λbX aJ=>de (j.size:: []) aJ λw=>bq 4 w m λres=>ag w n λaK=>z (.tuple #[res,aK]) w) (bH q λA aL=>e9 (.int .i64) A (I 4) (.func (.func 190) #[v] #[]) aL λbY aM=>e9 (.int .i64) A (I 5) (.func (.func 191) #[v] #[]) aM λbZ B=>au 0 g λaN=>ag B aN λaO=>dP (.int .i64) .nilFunc false B A aO λaP=>aX P aP [].toArray B λH i=>bp H 0 λaQ=>bp H 1 λC=>akV (σ:=bt [15]) (λJ=>au 1 g λk=>ag i k λe=>au 2 g λl=>ag i l λf=>au 1 t λD=>ag i D λo=>au 0 t λaR=>ag i aR λM=>au 2 g λaS=>ag i aS λN=>(ah P 193 [M,N] i λO p=>(ag p k λaT=>aT=e)/\(ag p l λaU=>aU=f)/\(ag p D λaW=>aW=o)/\((ah P 192 [o,O] p λaY r=>(ag r k λaZ=>aZ=e)/\(ag r l λbf=>bf=f)/\(aV [I 0,I 0,aE,aE] [(0,1,e),(1,1,f),(2,1,aY),(3,1,C)] λQ=>(ah P 107 [a,Q] r λS bg=>bp S 0 λbh=>bp S 1 λb5=>aB 303 (.agg #[I 0,aE,aE]) bg λT bk=>aD 3 T bh bk λb6 bl=>J (T,()) bl)/\(aB 303 (.agg #[I 0,aE,aE]) r λU bn=>ah P 107 [a,Q] bn λV br=>bp V 0 λbu=>bp V 1 λb7=>aD 3 U bu br λb8 bw=>J (U,()) bw)))/\(aB 303 (.agg #[I 0,aE,aE]) p λW bx=>ah P 192 [o,O] bx λbz E=>(ag E k λbA=>bA=e)/\(ag E l λbB=>bB=f)/\(aV [I 0,I 0,aE,aE] [(0,1,e),(1,1,f),(2,1,bz),(3,1,C)] λbC=>ah P 107 [a,bC] E λX bD=>bp X 0 λbE=>bp X 1 λb9=>aD 3 W bE bD λcc bF=>J (W,()) bF))))/\(aB 303 (.agg #[I 0,aE,aE]) i λY bG=>ah P 193 [M,N] bG λbI s=>(ag s k λbJ=>bJ=e)/\(ag s l λbK=>bK=f)/\(ag s D λbL=>bL=o)/\(ah P 192 [o,bI] s λbM F=>(ag F k λbN=>bN=e)/\(ag F l λbO=>bO=f)/\(aV [I 0,I 0,aE,aE] [(0,1,e),(1,1,f),(2,1,bM),(3,1,C)] λbP=>ah P 107 [a,bP] F λZ bQ=>bp Z 0 λbR=>bp Z 1 λcg=>aD 3 Y bR bQ λcj bS=>J (Y,()) bS)))) (λx hh=>OP P m n j z aQ x.1 hh))) (λbT=>de (j.size:: []) bT λG=>bq 4 G m λbU=>ag G n λbV=>z (.tuple #[bU,bV]) G) []
def aeu(H:OQ prog q r s t h K):aF prog 105 #[q,r,s,t] h K:=aG H func105 [(11,[15])]
def GL(P:Program)(a:Value)(h:af)(K:KT):Prop:=aB 203 a h λb c=>K (.func (.func 194) #[] #[b]) c
def OR(H:GL prog q h K):aF prog 106 #[q] h K:=aG H func106
def OS:=aA m (aV [I 0,aE,aE] [] λn=>aD 3 a n y λF c=>bq 3 c a λo=>Z (.tuple #[o,I 2]) c) (au 0 k λp=>ag y p λq=>au 1 k λr=>ag y r λs=>aq .eql q s λt=>aA t (aV [I 0,aE,aE] [] λu=>aD 3 a u y λG d=>bq 3 d a λv=>Z (.tuple #[v,I 0]) d) (ag y l λw=>bq 4 y k λx=>au 0 k λe=>ag y e λf=>au 1 k λg=>ag y g λi=>ah P 198 [w,x] y λz b=>(ag b e λA=>A=f)/\(ag b g λB=>B=i)/\(ah P 199 [z,f,i] b λC D=>aD 3 a C D λH j=>bq 3 j a λE=>Z (.tuple #[E,I 0]) j)))
def OT:=aB 47 a y λc r=>aB 307 b r λd s=>aB 303 (.agg #[I 0,aE,aE]) s λi e=>ag e c λt=>bL false .ptr t (.pointer none) λv=>aA v (aV [I 0,aE,aE] [] λw=>aD 3 i w e λu k=>bq 3 k i λres=>z (.tuple #[res,I 1]) k) (akV (σ:=bt [12]) (λJ=>au 0 d λA=>ag e A λB=>aX P (.func (.func 195) #[] #[c]) [B].toArray e λC j=>bY .not C λD=>aA D (J (.bool true,()) j) (au 1 d λE=>ag j E λF=>aX P (.func (.func 195) #[] #[c]) [F].toArray j λG f=>bY .not G λH=>aA H (J (.bool true,()) f) (au 2 d λl=>ag f l λm=>ag f c λL=>ah P 69 [L] f λM n=>(ag n l λN=>N=m)/\(ah P 196 [m,M] n λO g=>bY .not O λQ=>aA Q (J (.bool true,()) g) (au 3 d λo=>ag g o λp=>ag g c λR=>ah P 36 [R] g λS q=>(ag q o λT=>T=p)/\(ah P 197 [p,S] q λU V=>bY .not U λW=>J (W,()) V)))))) (λx hh=>OS P i z d c x.1 hh))
def aev(H:OT prog q r h K):aF prog 107 #[q,r] h K:=aG H func107 [(5,[12])]
def CM(P:Program)(d a:Value)(K:KT)(b:af):Prop:=aI d λe=>au 7 e λf=>bq 3 b f λg=>aD 3 a g b λj c=>bq 3 c a λi=>K (.tuple #[i,I 0]) c
def OU:=bL true .ptr k (.pointer none) λi=>aA i (ah P 206 [a,k] y λY j=>ah P 205 [a] j λl m=>z l m) (aI a λn=>au 7 n λo=>au 0 o λp=>ag y p λq=>aq .lss q (I 72057594037927936) λr=>aA r (aI a λs=>au 5 s λt=>b9 1 2 t (I 0) λu=>ag y u λv=>ah P 207 [a,v] y λw x=>aI a λA=>au 7 A λB=>au 1 B λC=>aD 1 C w x λaa d=>aI a λD=>au 7 D λE=>au 1 E λF=>ag d F λG=>ah P 208 [G] d λaf c=>aI a λH=>au 7 H λJ=>au 1 J λe=>ag c e λf=>aI a λL=>au 5 L λM=>b9 1 2 M (I 1) λN=>ag c N λO=>ah P 207 [a,O] c λQ g=>(ag g e λR=>R=f)/\(uY 3 1 8 [I 0] f Q g λS T=>aI a λU=>au 7 U λV=>au 1 V λW=>aD 1 W S T λai X=>CM P a b Z X)) (CM P a b Z y))
def OV:=aB 307 b y λc p=>aB 303 (.agg #[I 0,aE,aE]) p λe g=>bL false .ptr a (.pointer none) λq=>aA q (aV [I 0,aE,aE] [] λr=>aD 3 e r g λu k=>bq 3 k e λres=>z (.tuple #[res,I 1]) k) (bq 4 g c λs=>ah P 200 [a,s] g λt f=>bY .not t λv=>aA v (aV [I 0,aE,aE] [] λw=>aD 3 e w f λay l=>bq 3 l e λA=>z (.tuple #[A,I 2]) l) (au 0 c λB=>ag f B λC=>au 1 c λD=>ag f D λE=>aq .eql C E λF=>aA F (aV [I 0,aE,aE] [] λG=>aD 3 e G f λaz m=>bq 3 m e λH=>z (.tuple #[H,I 0]) m) (bq 4 f c λJ=>aV [I 0,aE,aE] [(0,1,I 72057594037927936)] λL=>aV [.pointer none,I 0,I 0,aE,aE,.pointer none,.pointer none,I 0,aE,aE,I 0] [(0,1,a),(1,4,J),(7,3,L)] λM=>aB 318 M f λd n=>au 0 c λN=>ag n N λO=>ah P 201 [d,I 0,O,I 1,(.func (.func 27) #[a] #[]),(.func (.func 202) #[] #[])] n λaC o=>au 1 c λQ=>ag o Q λR=>ah P 201 [d,I 1,R,I (-1),(.func (.func 125) #[a] #[]),(.func (.func 203) #[] #[])] o λaF i=>aI d λS=>au 5 S λT=>b9 1 2 T (I 0) λU=>ag i U λV=>au 0 c λW=>ag i W λX=>ah P 204 [d,V,X,I (-1),I 0] i λaG j=>aI d λY=>au 5 Y λZ=>b9 1 2 Z (I 1) λaa=>ag j aa λaf=>au 1 c λai=>ag j ai λaj=>ah P 204 [d,af,aj,I (-1),I 0] j λaH ak=>ah P 205 [d] ak λan av=>bI (σ:=bt [7]) (λx hh ax=>OU P d e z x.1 hh (λa0 hz=>ax (a0,()) hz)) (an,()) av)))
def aew(H:OV prog q r h K):aF prog 108 #[q,r] h K:=aG H func108 [(15,[7])]
def OW:=aB 56 b y λg i=>aB 62 (.agg #[I 0,I 0,aE,aE]) i λd c=>aI a λj=>au 0 j λk=>ag c k λl=>aI a λm=>au 1 m λn=>ag c n λo=>bq 4 c g λp=>ah P 110 [l,o,p] c λe q=>bp e 0 λr=>bp e 1 λs=>aD 4 d r q λu f=>bq 4 f d λres=>z (.tuple #[res,s]) f
def aex(H:OW prog q r h K):aF prog 109 #[q,r] h K:=aG H func109
def OX(P:Program)(c a:Value)(K:KT)(d:af):Prop:=aV [I 0,I 0,aE,aE] [(0,1,c)] λe=>aD 4 a e d λu b=>bq 4 b a λres=>K (.tuple #[res,aE]) b
def OY(P:Program)(c:Value)(K:KT)(k b:Value)(a:af):Prop:=au 0 b λl=>ag a l λm=>aq .geq m (I 72057594037927936) λn=>aA n (aV [I 0,I 0,aE,aE] [(0,1,I 20)] λo=>au 2 b λf=>ag a f λg=>aD 4 c o a λy d=>(ag d f λp=>p=g)/\(bq 4 d c λq=>K (.tuple #[q,g]) d)) (au 0 b λr=>ag a r λs=>au 1 b λt=>ag a t λu=>aV [I 0,I 0,aE,aE] [(1,1,s),(2,1,u),(3,1,k)] λv=>au 2 b λi=>ag a i λj=>aD 4 c v a λz e=>(ag e i λw=>w=j)/\(bq 4 e c λx=>K (.tuple #[x,j]) e))
def OZ:=aB 56 c y λd C=>aB 62 (.agg #[I 0,I 0,aE,aE]) C λk q=>bq 4 q d λD=>ah P 209 [a,b,D] q λl e=>aq .neq l (I 0) λE=>aA E (OX P l k z e) (au 1 d λF=>ag e F λG=>au 2 d λH=>ag e H λL=>aq .eql G L λM=>aA M (OX P l k z e) (au 1 d λN=>ag e N λO=>au 2 d λQ=>ag e Q λR=>au 3 d λS=>ag e S λT=>ah P 210 [b,O,R,T] e λm f=>akV (σ:=bt [10]) (λJ=>au 1 d λn=>ag f n λg=>au 2 d λo=>ag f o λi=>au 2 d λU=>ag f U λr=>(ah P 211 [b,m,r] f λV j=>(ag j n λW=>W=g)/\(ag j o λX=>X=i)/\(aV [I 0,I 0,aE,aE] [(0,1,g),(1,1,i),(3,1,V)] λs=>(ah P 107 [a,s] j λt Y=>bp t 0 λZ=>bp t 1 λaI=>aB 303 (.agg #[I 0,aE,aE]) Y λu aa=>aD 3 u Z aa λaJ af=>J (u,()) af)/\(aB 303 (.agg #[I 0,aE,aE]) j λv ai=>ah P 107 [a,s] ai λw aj=>bp w 0 λak=>bp w 1 λaK=>aD 3 v ak aj λaL an=>J (v,()) an)))/\(aB 303 (.agg #[I 0,aE,aE]) f λA av=>ah P 211 [b,m,r] av λax p=>(ag p n λay=>ay=g)/\(ag p o λaz=>az=i)/\(aV [I 0,I 0,aE,aE] [(0,1,g),(1,1,i),(3,1,ax)] λaC=>ah P 107 [a,aC] p λB aF=>bp B 0 λaG=>bp B 1 λaM=>aD 3 A aG aF λaN aH=>J (A,()) aH))) (λx hh=>OY P k z m x.1 hh)))
def aey(H:OZ prog q r s h K):aF prog 110 #[q,r,s] h K:=aG H func110 [(6,[10])]
def O2:=aB 56 b y λg i=>aB 62 (.agg #[I 0,I 0,aE,aE]) i λd c=>aI a λj=>au 0 j λk=>ag c k λl=>aI a λm=>au 1 m λn=>ag c n λo=>bq 4 c g λp=>ah P 112 [l,o,p] c λe q=>bp e 0 λr=>bp e 1 λs=>aD 4 d r q λu f=>bq 4 f d λres=>z (.tuple #[res,s]) f
def aez(H:O2 prog q r h K):aF prog 111 #[q,r] h K:=aG H func111
def O3(P:Program)(b c:Value)(a:af):Prop:=au 2 b λd=>ag a d λe=>ag a c λf=>au 0 b λg=>ag a g λi=>au 1 b λj=>ag a j λk=>aV [I 0,I 0,I 0,I 0] [(0,1,e),(1,1,f),(2,1,i),(3,1,k)] λl=>aB 120 l a λm n=>aV [.pointer none] [(0,1,m)] λo=>False
def CN(c:Value)(d:Loop)(e:Value)(f:af)(g:Exit->af->Prop):=aB 341 (.agg #[I 0,I 0,I 0,I 0,I 0,I 0]) f λa i=>aD 6 a e i λu j=>iZ (y.size+1) d j λb=>au 3 a λk=>ag b k λl=>au 4 a λm=>ag b m λn=>aq .lss l n λo=>aA o (O3 P a c b) (au 3 a λp=>ag b p λq=>au 5 a λr=>ag b r λs=>aq .geq q s λt=>aA t (O3 P a c b) (g .normal b))
def O4(e:List Nat)(d:Value)(f:af)(i:List Nat->KT):=aq .lss d a λj=>aA j (aY 1 b d λk=>ag f k λl=>aB 3 (I 0) f λg m=>aD 1 g d m λu n=>aX P l [].toArray n λo c=>gO P o [19] (c.size+1) (c.push (.deferred (some []))) (λL x hh R=>CN P c g L x.1 hh R) (λp=>aq .add d (I 1) λq=>i (c.size::e) q p) (λr=>de (c.size::e) r λs=>Z (.tuple #[]) s) []) (de e f λt=>Z (.tuple #[]) t)
def O5:=aB 32 a y λr1 c=>uX 337 (bO [.nilFunc] 5) [(0,1,(.func (.func 217) #[] #[r1])),(1,1,(.func (.func 219) #[] #[r1])),(2,1,(.func (.func 221) #[] #[r1])),(3,1,(.func (.func 223) #[] #[r1])),(4,1,(.func (.func 224) #[] #[r1]))] 5 c λb d=>bB b λe=>bI (σ:=List Nat×bt [12]) (λx hh f=>O4 P e b z x.1 x.2.1 hh (λg a0 hz=>f (g,(a0,())) hz)) ([],(I 0,())) d
def aeA(H:O5 prog q h K):aF prog 114 #[q] h K:=aG H func114 [(2,[12])]
def GM(P:Program)(a:Value)(b:KT)(c:af):Prop:=aq .add a (I 1) λd=>b d c
def GN:=aq .lss k a λr=>aA r (akV (σ:=bt []) (λi=>aY 3 b k λs=>bq 3 y s λt=>aB 59 (.agg #[I 0,I 0,I 0]) y λe u=>aD 3 e t u λan g=>bq 3 g e λl=>bq 3 g e λf=>(aX P c [l].toArray g λm j=>(bq 3 j e λv=>v=f)/\((aX P c [f].toArray j λw n=>aY 1 d w λA=>ag n A λB=>uX 3 (bO [I 0] 1) [(0,1,k)] 1 n λC D=>uY 3 1 8 [I 0] B C D λE F=>aY 1 d m λG=>aD 1 G E F λau H=>i () H)/\(uX 3 (bO [I 0] 1) [(0,1,k)] 1 j λJ L=>aX P c [f].toArray L λM o=>aY 1 d M λN=>ag o N λO=>uY 3 1 8 [I 0] O J o λQ R=>aY 1 d m λS=>aD 1 S Q R λav T=>i () T)))/\(uX 3 (bO [I 0] 1) [(0,1,k)] 1 g λU V=>aX P c [l].toArray V λW p=>(bq 3 p e λX=>X=f)/\(aX P c [f].toArray p λY q=>aY 1 d Y λaa=>ag q aa λaf=>uY 3 1 8 [I 0] af U q λah ai=>aY 1 d W λaj=>aD 1 aj ah ai λax ak=>i () ak))) (λx hh=>GM P k z hh)) (Z d y)
def O6(j:Value->KT):=aq .lss l a λm=>aA m (aY 1 b l λn=>ag y n λg=>aq .add k g λo=>eW 1 c (some k) (some k) (some o) λp=>aY 1 d l λq=>aD 1 q p y λz r=>aq .add k g λs=>aq .add l (I 1) λt=>j s t r) (au 3 e λu=>ag y u λi=>bB i λv=>bI (σ:=bt [64]) (λx hh w=>GN P v i f d Z x.1 hh (λa0 hz=>w (a0,()) hz)) (I 0,()) y)
def GO:=bB a λd=>bI (σ:=bt [9,42]) (λx hh e=>O6 P d a k l b c Z x.1 x.2.1 hh (λa0 f hz=>e (a0,(f,())) hz)) (I 0,(I 0,())) y
def O7:=aq .lss k a λn=>aA n (aY 3 b k λo=>bq 3 y o λp=>aB 59 (.agg #[I 0,I 0,I 0]) y λi q=>aD 3 i p q λu j=>bq 3 j i λr=>aX P c [r].toArray j λl m=>aY 1 d l λs=>ag m s λt=>aq .add t (I 1) λv=>aY 1 d l λw=>aD 1 w v m λR A=>aq .add k (I 1) λB=>z B A) (akV (σ:=bt [7,8]) (λJ=>au 3 e λC=>ag y C λD=>bB D λf=>au 0 e λE=>ag y E λg=>(dG 3 8 [I 0] f f y λF G=>dG 43 24 [aE] g g G λH L=>J (F,(H,())) L)/\(dG 43 24 [aE] g g y λM N=>dG 3 8 [I 0] f f N λO Q=>J (O,(M,())) Q)) (λx hh=>GO P d e c Z x.1 x.2.1 hh))
def O8:=au 0 b λf=>ag y f λc=>dG 3 8 [I 0] c c y λg d=>au 3 b λi=>ag d i λe=>bB e λj=>bI (σ:=bt [20]) (λx hh k=>O7 P j e a g b z x.1 hh (λa0 hz=>k (a0,()) hz)) (I 0,()) d
def aeB(H:O8 prog q r h K):aF prog 116 #[q,r] h K:=aG H func116 [(4,[20]),(9,[7,8]),(13,[9,42]),(21,[64]),(24,[])]
def O9(P:Program)(a0:Value)(h:af)(K:KT):Prop:=aB 59 a0 h λb a=>au 0 b λc=>ag a c λd=>K d a
def aeC(H:O9 prog q h K):aF prog 117 #[q] h K:=aG H func117
def Pa(P:Program)(a0:Value)(h:af)(K:KT):Prop:=aB 59 a0 h λb a=>au 1 b λc=>ag a c λd=>K d a
def aeD(H:Pa prog q h K):aF prog 118 #[q] h K:=aG H func118
def aeE(P:Program)(s0:Value)(h:af)(K:KT):Prop:=bL false .slice s0 aE λa=>aA a (K aE h) (uX 2 (bO [I 0] 0) [] 0 h λb c=>uY 2 1 8 [I 0] b s0 c λd e=>K d e)
def aeF(H:aeE prog q h K):aF prog 119 #[q] h K:=aG H func119
def aeG(P:Program)(s0:Value)(h:af)(K:KT):Prop:=bL false .slice s0 aE λa=>aA a (K aE h) (uX 59 (bO [I 0,I 0,I 0] 0) [] 0 h λb c=>uY 59 3 24 [I 0,I 0,I 0] b s0 c λd e=>K d e)
def aeH(H:aeG prog q h K):aF prog 120 #[q] h K:=aG H func120
def Pb(P:Program)(b c e:Value)(h:af)(K:KT):Prop:=ag h c λd=>dP (.int .i64) (I 0) false h d b λf=>aq .add f (I 1) λg=>e9 (.int .i64) d b g h λu a=>aq .lss b (I 0) λi=>aA i (K (.bool true) a) (ag a e λj=>aq .geq b j λk=>aA k (K (.bool true) a) (ag a c λl=>dP (.int .i64) (I 0) false a l b λm=>aq .gtr m (I 1) λn=>K n a))
def aeI(H:Pb prog q r s h K):aF prog 121 #[q,r,s] h K:=aG H func121
def GP:=ah P 230 [a,b] y λc d=>aq .geq c (I 0) λe=>z e d
def Pc(H:GP prog q r h K):aF prog 122 #[q,r] h K:=aG H func122
def Pd(P:Program)(b:af)(s2:Value)(L:Loop)(c:Value)(d:af)(R:Exit->af->Prop):Prop:=iZ (b.size+1) L d λa=>ag a s2 λe=>uX 29 (bO [aE] 1) [(0,1,c)] 1 a λf g=>uY 29 1 24 [aE] e f g λi j=>aD 1 s2 i j λu k=>R .normal k
def Pe:=aB 128 a y λs2 c=>gO P b [7] (c.size+1) (c.push (.deferred (some []))) (λL x hh R=>Pd P c s2 L x.1 hh R) (λd=>ag d s2 λe=>de (c.size:: []) d λf=>z e f) (λg=>de (c.size:: []) g λi=>z aE i) []
def aeJ(H:Pe prog q r h K):aF prog 123 #[q,r] h K:=aG H func123
def Pf:=aq .lss k a λg=>aA g (aY 1 b k λi=>ag y i λj=>ag y c λl=>ag y d λm=>aX P l [m,j].toArray y λn o=>oD 0 n λp=>aX P e [p].toArray o λq f=>bY .not q λr=>aA r (Z (.tuple #[]) f) (aq .add k (I 1) λs=>z s f)) (Z (.tuple #[]) y)
def Pg:=ag y b λe=>bB e λf=>bI (σ:=bt [9]) (λx hh g=>Pf P f e c d a z x.1 hh (λa0 hz=>g (a0,()) hz)) (I 0,()) y
def aeK(H:Pg prog q r s t h K):aF prog 124 #[q,r,s,t] h K:=aG H func124 [(1,[9])]
def Ph:=bL false .ptr a (.pointer none) λd=>aA d (z aE y) (aI a λe=>au 5 e λf=>ag y f λg=>ah P 91 [g,b] y λc i=>bp c 0 λj=>bp c 1 λm=>ah P 53 [j] i λk l=>z k l)
def aeL(H:Ph prog q r h K):aF prog 125 #[q,r] h K:=aG H func125
def Pj(P:Program)(a0:Value)(h:af)(K:KT):Prop:=aB 59 a0 h λb a=>au 0 b λc=>ag a c λd=>K d a
def aeM(H:Pj prog q h K):aF prog 126 #[q] h K:=aG H func126
def Pk(P:Program)(a b:Value)(h:af)(K:KT):Prop:=aB 47 a h λc d=>aB 3 b d λe f=>K (.func (.func 231) #[] #[c,e]) f
def aeN(H:Pk prog q r h K):aF prog 127 #[q,r] h K:=aG H func127
def GQ(P:Program)(K:KT)(a:af):Prop:=K (I 0) a
def Pm:=aq .lss b (I 1) λe=>aA e (GQ P z y) (ah P 238 [a] y λf c=>aq .eql f (I 0) λg=>aA g (GQ P z c) (aI a λi=>au 0 i λj=>ag c j λk=>ah P 239 [k] c λd l=>bp d 0 λm=>bp d 1 λn=>aI a λo=>au 0 o λp=>aD 1 p n l λu q=>cJ .i64 m λr=>aq .rem r b λs=>z s q))
def aeO(H:Pm prog q r h K):aF prog 128 #[q,r] h K:=aG H func128
def Po(d:af->Prop):=ah P 244 [a,(.func (.func 245) #[] #[b])] y λe c=>aA e (ag c b λf=>aq .add f (I 1) λg=>aD 1 b g c λk i=>d i) (ag c b λj=>Z j c)
def Pp:=aq .geq k (I 0) λd=>aA d (aD 1 a k y λq c=>aI b λe=>au 3 e λf=>ag c f λg=>ag c a λi=>dP (.int .i64) aE false c g i λj=>ah P 242 [j] c λl m=>ah P 241 [l,(.func (.func 243) #[b] #[])] m λn o=>z n o) (ag y a λp=>Z p y)
def Pq:=ah P 240 [a,b,c] y λf i=>aI f λj=>au 0 j λk=>au 2 k λl=>ag i l λm=>ah P 242 [m] i λn o=>ah P 241 [n,(.func (.func 243) #[f] #[])] o λp q=>aB 3 (I 0) q λd r=>aD 1 d p r λu e=>ag e d λs=>aq .lss s (I 0) λt=>aA t (aD 1 d (I 0) e λA v=>bI (σ:=bt []) (λx hh g=>Po P b d z hh (λhz=>g () hz)) () v) (ag e d λw=>bI (σ:=bt [9]) (λx hh g=>Pp P d f z x.1 hh (λa0 hz=>g (a0,()) hz)) (w,()) e)
def aeU(H:Pq prog q r s h K):aF prog 129 #[q,r,s] h K:=aG H func129 [(7,[]),(14,[9])]
def CO(P:Program)(a:Value)(Z:Value->KT)(b:Value)(c:af):Prop:=aq .add a (I 1) λd=>Z b d c
def Pt(e:Value->KT):=aq .lss l a λg=>aA g (aY 1 b l λi=>ag y i λd=>ah P 246 [c,d] y λj f=>aA j (ah P 56 [c,d] f λm n=>ah P 9 [c,d] n λo p=>aV [I 0,aE,aE,aE,aE,aE,aE] [(0,1,d),(1,3,m),(4,3,o)] λq=>uX 372 (bO [I 0,aE,aE,aE,aE,aE,aE] 1) [(0,7,q)] 1 p λr s=>uY 372 7 152 [I 0,aE,aE,aE,aE,aE,aE] k r s λt u=>CO P l e t u) (CO P l e k f)) (Z k y)
def Pu:=bB b λc=>bI (σ:=bt [4,9]) (λx hh d=>Pt P c b a z x.1 x.2.1 hh (λa0 e hz=>d (a0,(e,())) hz)) (aE,(I 0,())) y
def aeV(H:Pu prog q r h K):aF prog 130 #[q,r] h K:=aG H func130 [(3,[4,9])]
def CP(P:Program)(K:KT)(a:Value)(b:af):Prop:=K a b
def Pv:=ag y b λe=>dP (.int .i64) (I 0) true y e a λc=>bp c 0 λf=>bp c 1 λg=>bY .not g λi=>aA i (ag y b λj=>sV y j λd=>ag y b λk=>e9 (.int .i64) k a d y λu l=>CP P z d l) (CP P z f y)
def aeW(H:Pv prog q r h K):aF prog 131 #[q,r] h K:=aG H func131
def Pw(P:Program)(K:KT)(a:af):Prop:=K (.tuple #[I 0,I 0]) a
def Px(P:Program)(b:Value)(K:KT)(a:Value)(c:af)(Z:KT):Prop:=aq .add a (I 1) λd=>aq .add a (I 1) λe=>aq .mul d e λf=>aq .leq f b λg=>aA g (aq .add a (I 1) λi=>Z i c) (aq .quo b a λj=>K (.tuple #[a,j]) c)
def Py:=aq .lss a (I 1) λb=>aA b (Pw P z y) (aq .gtr a (I 256) λc=>aA c (Pw P z y) (bI (σ:=bt [2]) (λx hh d=>Px P a z x.1 hh (λa0 hz=>d (a0,()) hz)) (I 1,()) y))
def aeX(H:Py prog q h K):aF prog 132 #[q] h K:=aG H func132 [(6,[2])]
def GU(P:Program)(a:Value)(h:af)(K:KT):Prop:=aB 47 a h λn1 b=>K (.func (.func 247) #[] #[n1]) b
def Pz(H:GU prog q h K):aF prog 133 #[q] h K:=aG H func133
def PA(P:Program)(g b:Value)(h:af)(K:KT):Prop:=aB 226 g h λd i=>aB 226 (.agg #[I 0,I 0,.bool false]) i λc a=>au 2 d λj=>ag a j λk=>bY .not k λl=>aA l (aV [I 0,I 0,.bool false] [(0,1,b),(1,1,b),(2,1,.bool true)] λm=>aD 3 c m a λu e=>bq 3 e c λres=>K res e) (au 0 d λn=>ag a n λo=>lN o b λp=>au 1 d λq=>ag a q λr=>jR r b λs=>aV [I 0,I 0,.bool false] [(0,1,p),(1,1,s),(2,1,.bool true)] λt=>aD 3 c t a λw f=>bq 3 f c λv=>K v f)
def aeY(H:PA prog q r h K):aF prog 134 #[q,r] h K:=aG H func134
def PB(P:Program)(d many1:Value)(h:af)(K:KT):Prop:=aB 226 d h λa e=>aB 3 many1 e λf b=>au 1 a λg=>ag b g λi=>au 0 a λj=>ag b j λk=>aq .sub i k λl=>aq .add l (I 1) λm=>aB 2 (I 0) b λc n=>aD 1 c m n λu o=>K (.func (.func 249) #[] #[a,f,c]) o
def aeZ(H:PB prog q r h K):aF prog 135 #[q,r] h K:=aG H func135
def PC:=aq .lss k a λd=>aA d (aY 1 b k λe=>ag y e λf=>ag y c λg=>aI g λi=>au 1 i λj=>ag y j λl=>ag y c λm=>aI m λn=>au 2 n λo=>ag y o λp=>aY 1 l f λq=>aD 1 q p y λu r=>aq .add k (I 1) λs=>z s r) (js P 250 #[c] y λt=>Z (.tuple #[]) t)
def PD:=aB 233 a y λd e=>aq .eql c (I 1) λn=>aA n (bB b λo=>bI (σ:=bt [17]) (λx hh p=>PC P o b d z x.1 hh (λa0 hz=>p (a0,()) hz)) (I 0,()) e) (ag e d λq=>ah P 251 [q,b] e λg i=>bp g 0 λr=>bp g 1 λQ=>ag i d λs=>ah P 252 [s,r] i λt u=>aB 369 .nilFunc u λj v=>aD 1 j t v λR w=>ah P 242 [b] w λA B=>ah P 253 [A,(.func (.func 254) #[] #[j])] B λf k=>bB f λC=>aq .quo c (I 2) λD=>aq .mul C D λE=>aq .quo E c λl=>ag k d λF=>eW 1 f none (some l) none λG=>aq .quo c (I 2) λH=>ah P 136 [F,G,H] k λS m=>ag m d λJ=>eW 1 f (some l) none none λL=>aq .quo c (I 2) λM=>aq .sub c M λN=>ah P 136 [J,L,N] m λT O=>z (.tuple #[]) O)
def ae0{a b d:Value}(H:PD prog a b d h K):aF prog 136 #[a,b,d] h K:=
 aeR (g:=250) (A:=cL (Tryz.f136.body.getD .skip)) (A':=(cL (cL (cR (Tryz.f136.body.getD .skip))))) (B:=(cR (cT (cR (cL (cR (Tryz.f136.body.getD .skip))))))) (C:=(cR (cR (Tryz.f136.body.getD .skip)))) (lR:=(eX (cL (Tryz.f136.body.getD .skip)) 0 []).1) (GR:=(eX (cL (cL (cR (Tryz.f136.body.getD .skip)))) 0 []).1) (iF:=(eX (cR (cT (cR (cL (cR (Tryz.f136.body.getD .skip)))))) 0 [(2,[17])]).1) (zZ:=(eX (cR (cR (Tryz.f136.body.getD .skip))) 0 []).1) (id:=uN (cL (cT (cR (cL (cR (Tryz.f136.body.getD .skip))))))) (o1:=cO 0 (cL (cT (cR (cL (cR (Tryz.f136.body.getD .skip))))))) (o2:=cO 1 (cL (cT (cR (cL (cR (Tryz.f136.body.getD .skip))))))) (s:=14) (co:=(.tmp 13)) (caps:= #[.tmp 3]) (c:={callee:=.value (.tmp 14),args:= #[],argTypes:= #[]})
  func136 bn bn bn iC bn bn bn bn rfl rfl bn bn
  (Eq.mpr bn H)
def PE:=bL false .ptr a (.pointer none) λb=>aA b (z aE y) (aI a λc=>au 0 c λd=>ag y d λe=>ah P 53 [e] y λf g=>z f g)
def ae1(H:PE prog q h K):aF prog 137 #[q] h K:=aG H func137
def PF:=aq .lss k a λg=>aA g (aY 1 b k λi=>ag y i λj=>ag y c λl=>ah P 143 [l,j] y λm n=>aB 241 aE n λe o=>aD 1 e m o λu p=>aX P (.func (.func 139) #[] #[c,d]) [(.func (.func 144) #[] #[e])].toArray p λq f=>bY .not q λr=>aA r (Z (.tuple #[]) f) (aq .add k (I 1) λs=>z s f)) (Z (.tuple #[]) y)
def PG:=aB 105 a y λf i=>aX P (.func (.func 139) #[] #[b,f]) [(.func (.func 140) #[] #[b,c,d])].toArray i λj e=>bY .not j λk=>aA k (z (.tuple #[]) e) (ag e c λl=>ag e b λm=>ag e d λn=>ah P 142 [l,m,n] e λg o=>bB g λp=>bI (σ:=bt [19]) (λx hh q=>PF P p g b f z x.1 hh (λa0 hz=>q (a0,()) hz)) (I 0,()) o)
def ae2(H:PG prog q r s t h K):aF prog 138 #[q,r,s,t] h K:=aG H func138 [(5,[19])]
def CQ(P:Program)(a:Value)(Z:KT)(b:af):Prop:=aq .add a (I 1) λc=>Z c b
def PI:=aq .lss k a λf=>aA f (aX P b [k].toArray y λg d=>aA g (ag d c λi=>aX P i [k].toArray d λj e=>bY .not j λl=>aA l (Z (.bool false) e) (CQ P k z e)) (CQ P k z d)) (Z (.bool true) y)
def PJ:=ag y b λd=>ah P 69 [d] y λe f=>bI (σ:=bt [8]) (λx hh g=>PI P e a c z x.1 hh (λa0 hz=>g (a0,()) hz)) (I 0,()) f
def ae3(H:PJ prog q r s h K):aF prog 139 #[q,r,s] h K:=aG H func139 [(3,[8])]
def PK:=ag y b λe=>ag y c λf=>ag y d λg=>ah P 141 [e,f,g,a] y λi j=>z i j
def ae4(H:PK prog q r s t h K):aF prog 140 #[q,r,s,t] h K:=aG H func140
def PM:=ah P 180 [a,d] y λi j=>bp i 0 λk=>bp i 1 λl=>aB 59 (.agg #[I 0,I 0,I 0]) j λe m=>aD 3 e k m λu f=>aA l (au 0 e λn=>ag f n λo=>ah P 193 [b,o] f λp g=>aq .eql p c λq=>aA q (au 1 e λr=>ag g r λs=>ah P 193 [b,s] g λt v=>aq .eql t c λw=>z w v) (z (.bool false) g)) (z (.bool false) f)
def ae5(H:PM prog q r s t h K):aF prog 141 #[q,r,s,t] h K:=aG H func141
def PN:=aA n (Z aE y) (aB 105 .nilFunc y λa c=>aD 1 a (.func (.func 258) #[] #[k,l,m]) c λu b=>ag b l λd=>ah P 259 [d,(.func (.func 260) #[] #[l,m,k,a])] b λe f=>ah P 29 [e] f λg i=>Z g i)
def PO:=aB 49 a y λc3 k=>aB 47 b k λe l=>aB 3 c l λm d=>akV (σ:=bt [23]) (λJ=>ag d c3 λn=>bL false .ptr n (.pointer none) λo=>aA o (J (.bool true,()) d) (ag d e λp=>bL false .ptr p (.pointer none) λq=>aA q (J (.bool true,()) d) (ag d e λr=>ag d c3 λg=>aI g λs=>au 0 s λi=>ag d i λj=>bB j λt=>ah P 36 [r] d λu f=>(ag f c3 λv=>v=g)/\(ag f i λw=>w=j)/\(aq .neq u t λA=>J (A,()) f)))) (λx hh=>PN P z e c3 m x.1 hh)
def ae6(H:PO prog q r s h K):aF prog 142 #[q,r,s] h K:=aG H func142 [(2,[23])]
def PR:=uX 3 (bO [I 0] 1) [(0,1,b)] 1 y λc d=>ah P 261 [a,c] d λe f=>z e f
def ae7(H:PR prog q r h K):aF prog 143 #[q,r] h K:=aG H func143
def PS(P:Program)(a0 a:Value)(h:af)(K:KT):Prop:=ag h a λb=>bB b λc=>aq .lss a0 c λd=>aA d (ag h a λe=>aY 1 e a0 λf=>ag h f λg=>K g h) (K (.bool false) h)
def ae8(H:PS prog q r h K):aF prog 144 #[q,r] h K:=aG H func144
def CR(P:Program)(K:KT)(a:af):Prop:=K (.bool false) a
def PT:=aq .lss b (I 0) λg=>aA g (CR P z y) (ah P 187 [a] y λi f=>aq .geq b i λj=>aA j (CR P z f) (aq .lss c (I 0) λk=>aA k (CR P z f) (ah P 188 [a] f λl e=>aq .geq c l λm=>aA m (CR P z e) (aI a λn=>au 3 n λo=>ag e o λp=>aI a λq=>au 2 q λr=>ag e r λs=>aq .mul b s λt=>aq .quo c (I 8) λu=>aq .add t u λv=>aY 1 p v λw=>aq .rem c (I 8) λx=>aq .shl (.int .u8 1) x λA=>aX P d [w,A].toArray e λB C=>z B C))))
def ae9(H:PT prog q r s t h K):aF prog 145 #[q,r,s,t] h K:=aG H func145
def GV(P:Program)(K:KT)(a:af):Prop:=K (.bool true) a
def PU:=aI a λe=>ag y e λf=>aq .andNot f b λg=>aI a λi=>aD 1 i g y λu d=>ag d c λj=>aA j (aI a λk=>ag d k λl=>aq .or l b λm=>aI a λn=>aD 1 n m d λp o=>GV P z o) (GV P z d)
def afa(H:PU prog q r s h K):aF prog 146 #[q,r,s] h K:=aG H func146
def PW(P:Program)(h:af)(K:KT):Prop:=aV [aE] [] λa=>aB 387 a h λb c=>K b c
def afb(H:PW prog h K):aF prog 147 #[] h K:=aG H func147
def PX(P:Program)(w0 a:Value)(h:af)(K:KT):Prop:=bL true .ptr w0 (.pointer none) λb=>aA b (aI w0 λc=>au 0 c λd=>ag h d λe=>wK 5 1 1 [.int .u8 0] e a h λf g=>aI w0 λi=>au 0 i λj=>aD 1 j f g λu k=>K (.tuple #[]) k) (K (.tuple #[]) h)
def afc(H:PX prog q r h K):aF prog 148 #[q,r] h K:=aG H func148
def PY:=ah P 262 [a,I 1,b] y λd c=>z (.tuple #[]) c
def afd(H:PY prog q r h K):aF prog 149 #[q,r] h K:=aG H func149
def PZ:=ah P 263 [a,I 8,b] y λd c=>z (.tuple #[]) c
def afe(H:PZ prog q r h K):aF prog 150 #[q,r] h K:=aG H func150
def P0:=ah P 264 [a,I 4,b] y λd c=>z (.tuple #[]) c
def aff(H:P0 prog q r h K):aF prog 151 #[q,r] h K:=aG H func151
def Qa:=ah P 265 [.int .u32 0,a] y λb c=>z b c
def afg(H:Qa prog q h K):aF prog 152 #[q] h K:=aG H func152
def Qb(P:Program)(w0:Value)(h:af)(K:KT):Prop:=bL false .ptr w0 (.pointer none) λa=>aA a (K (.string ⟨#[]⟩) h) (aI w0 λb=>au 0 b λc=>ag h c λd=>pR h d λe=>K e h)
def afh(H:Qb prog q h K):aF prog 153 #[q] h K:=aG H func153
def Qc:=aq .lss k a λf=>aA f (aY 3 b k λg=>bq 3 y g λi=>aB 59 (.agg #[I 0,I 0,I 0]) y λd j=>aD 3 d i j λC e=>au 0 d λl=>ag e l λm=>cJ .u32 m λn=>au 1 d λo=>ag e o λp=>cJ .u32 p λq=>au 2 d λr=>ag e r λs=>cJ .u32 s λt=>uX 253 (bO [.int .u32 0] 3) [(0,1,n),(1,1,q),(2,1,t)] 3 e λu v=>ah P 151 [c,u] v λD w=>aq .add k (I 1) λx=>z x w) (ah P 153 [c] y λA B=>Z A B)
def Qd:=aq .lss k a λe=>aA e (au 1 b λf=>ag y f λg=>aY 1 g k λi=>ag y i λj=>au 2 b λl=>ag y l λm=>aY 1 m k λn=>ag y n λo=>uX 2 (bO [I 0] 2) [(0,1,j),(1,1,o)] 2 y λp q=>ah P 267 [c,p] q λw r=>aq .add k (I 1) λs=>z s r) (au 3 b λt=>ag y t λd=>bB d λu=>bI (σ:=bt [46]) (λx hh v=>Qc P u d c Z x.1 hh (λa0 hz=>v (a0,()) hz)) (I 0,()) y)
def Qe:=ah P 147 [] y λd e=>aI a λg=>au 0 g λi=>ag e i λj=>ah P 266 [j] e λk l=>aB 32 (.agg #[I 0,aE,aE,aE]) l λb m=>aD 4 b k m λu c=>au 0 b λn=>ag c n λo=>cJ .u32 o λp=>au 3 b λq=>ag c q λr=>bB r λs=>cJ .u32 s λt=>uX 253 (bO [.int .u32 0] 2) [(0,1,p),(1,1,t)] 2 c λv w=>ah P 151 [d,v] w λD f=>au 0 b λA=>ag f A λB=>bI (σ:=bt [26]) (λx hh C=>Qd P B b d z x.1 hh (λa0 hz=>C (a0,()) hz)) (I 0,()) f
def afi(H:Qe prog q h K):aF prog 154 #[q] h K:=aG H func154 [(6,[26]),(13,[46])]
def Qf:=aq .lss k a λf=>aA f (aY 1 b k λg=>ag y g λi=>ah P 267 [c,i] y λq e=>aY 1 d k λj=>ag e j λl=>ah P 267 [c,l] e λr m=>aq .add k (I 1) λn=>z n m) (ah P 153 [c] y λo p=>Z o p)
def Qg:=aq .lss k a λf=>aA f (aY 1 b k λg=>ag y g λi=>cJ .u32 i λj=>uX 253 (bO [.int .u32 0] 1) [(0,1,j)] 1 y λl m=>ah P 151 [c,l] m λA n=>aq .add k (I 1) λo=>z o n) (aI d λp=>au 1 p λq=>ag y q λr=>ah P 268 [r] y λe s=>bp e 0 λt=>bp e 1 λu=>bB b λv=>bI (σ:=bt [44]) (λx hh w=>Qf P v t c u Z x.1 hh (λa0 hz=>w (a0,()) hz)) (I 0,()) s)
def Qh:=ah P 147 [] y λc d=>aI a λe=>au 1 e λf=>ag d f λg=>ah P 102 [g] d λb i=>bB b λj=>cJ .u8 j λk=>uX 5 (bO [.int .u8 0] 1) [(0,1,k)] 1 i λl m=>ah P 149 [c,l] m λq n=>bB b λo=>bI (σ:=bt [24]) (λx hh p=>Qg P o b c a z x.1 hh (λa0 hz=>p (a0,()) hz)) (I 0,()) n
def afj(H:Qh prog q h K):aF prog 155 #[q] h K:=aG H func155 [(6,[24]),(14,[44])]
def Qi:=aq .lss k a λd=>aA d (aY 1 b k λe=>ag y e λf=>cJ .u8 f λg=>uX 5 (bO [.int .u8 0] 1) [(0,1,g)] 1 y λi j=>ah P 149 [c,i] j λp l=>aq .add k (I 1) λm=>z m l) (ah P 153 [c] y λn o=>Z n o)
def Qj:=ah P 147 [] y λd b=>aI a λe=>au 2 e λf=>ag b f λg=>ah P 137 [g] b λc i=>bB c λj=>bI (σ:=bt [13]) (λx hh k=>Qi P j c d z x.1 hh (λa0 hz=>k (a0,()) hz)) (I 0,()) i
def afk(H:Qj prog q h K):aF prog 156 #[q] h K:=aG H func156 [(4,[13])]
def Qk:=ag y a λb=>aI b λc=>au 3 c λd=>ag y d λe=>ah P 158 [e] y λf g=>z f g
def afl(H:Qk prog q h K):aF prog 157 #[q] h K:=aG H func157
def Ql(P:Program)(a:Value)(h:af)(K:KT):Prop:=bL false .ptr a (.pointer none) λb=>aA b (K (.string ⟨#[]⟩) h) (aI a λc=>au 3 c λd=>ag h d λe=>pR h e λf=>K f h)
def afm(H:Ql prog q h K):aF prog 158 #[q] h K:=aG H func158
def Qm(P:Program)(s0:Value)(h:af)(K:KT):Prop:=aV [(.string ⟨#[]⟩),I 0,.pointer none] [(0,1,s0)] λa=>aB 397 a h λb c=>K b c
def afn(H:Qm prog q h K):aF prog 160 #[q] h K:=aG H func160
def Qn(P:Program)(d:af)(b:Value)(L:Loop)(e:Value)(f:af)(R:Exit->af->Prop):Prop:=aB 403 (.agg #[I 0,.int .u64 0,.int .u32 0]) f λc g=>aD 3 c e g λu i=>iZ (d.size+1) L i λa=>ag a b λj=>bq 3 a c λk=>uX 403 (bO [I 0,.int .u64 0,.int .u32 0] 1) [(0,3,k)] 1 a λl m=>uY 403 3 24 [I 0,.int .u64 0,.int .u32 0] j l m λn o=>aD 1 b n o λq p=>R .normal p
def Qo(k f:Value)(g:af)(r:Value->KT):=aq .lss f a λs=>aA s (aY 3 b f λt=>bq 3 g t λu=>aB 403 (.agg #[I 0,.int .u64 0,.int .u32 0]) g λd v=>aD 3 d u v λX e=>au 0 d λl=>ag e l λm=>aI c λw=>au 0 w λx=>ag e x λA=>au 1 d λB=>ag e B λC=>cJ .i64 C λD=>ah P 275 [A,D] e λE n=>(ag n l λF=>F=m)/\(aV [I 0,(.string ⟨#[]⟩)] [(0,1,m),(1,1,E)] λG=>uX 157 (bO [I 0,(.string ⟨#[]⟩)] 1) [(0,2,G)] 1 n λH J=>uY 157 2 24 [I 0,(.string ⟨#[]⟩)] k H J λi j=>bB i λL=>aq .sub L (I 1) λM=>aY 2 i M λN=>au 1 N λO=>ag j O λQ=>au 2 d λo=>ag j o λp=>ah P 152 [Q] j λR q=>(ag q o λS=>S=p)/\(aq .eql R p λT=>ah P 272 [T,I 24] q λY U=>aq .add f (I 1) λV=>r i V U))) (de (y.size:: []) g λW=>z k W)
def Qp(e f:Value)(g:af)(n:Value->KT):=aq .lss f a λo=>aA o (aY 3 b f λp=>bq 3 g p λq=>aB 403 (.agg #[I 0,.int .u64 0,.int .u32 0]) g λi r=>aD 3 i q r λG j=>au 1 i λs=>ag j s λt=>aq .leq t e λu=>ah P 272 [u,I 23] j λH k=>au 1 i λv=>ag k v λw=>aq .sub e w λA=>aq .add f (I 1) λB=>n A B k) (aq .eql e (.int .u64 0) λC=>ah P 272 [C,I 23] g λJ l=>ag l c λm=>bB m λD=>bI (σ:=bt [2,74]) (λx hh E=>Qo P D m d y z x.1 x.2.1 hh (λa0 F hz=>E (a0,(F,())) hz)) (aE,(I 0,())) l)
def GW(c:af):=aI a λf=>au 0 f λg=>ag c g λi=>ah P 274 [i] c λj d=>cJ .u64 j λk=>ag d b λe=>bB e λl=>bI (σ:=bt [7,55]) (λx hh m=>Qp P l e b a y z x.1 x.2.1 hh (λa0 n hz=>m (a0,(n,())) hz)) (k,(I 0,())) d
def Qq:=aB 398 aE y λc i=>ah P 269 [a] i λj b=>gO P j [14] (b.size+1) (b.push (.deferred (some []))) (λL x hh R=>Qn P b c L x.1 hh R) (λe=>aI a λk=>au 0 k λl=>ag e l λm=>ah P 270 [m] e λn f=>aI a λo=>au 0 o λp=>ag f p λq=>ah P 271 [q] f λr g=>aI a λs=>au 0 s λt=>ag g t λu=>ah P 273 [u] g λv d=>bL false .iface v .nilIface λw=>aA w (aI a λA=>au 1 A λB=>ag d B λC=>uz C none (some n) λD=>ah P 152 [D] d λE F=>aq .eql r E λG=>ah P 272 [G,I 23] F λO H=>GW P a c b z H) (ah P 272 [.bool false,I 23] d λQ J=>GW P a c b z J)) (λM=>de (b.size:: []) M λN=>z aE N) []
def afo(H:Qq prog q h K):aF prog 161 #[q] h K:=aG H func161 [(10,[7,55]),(19,[2,74])]
def Qr(P:Program)(a:Value)(h:af)(K:KT):Prop:=aB 260 a h λr1 b=>K (.func (.func 276) #[] #[r1]) b
def afp(H:Qr prog q h K):aF prog 162 #[q] h K:=aG H func162
def Qt:=ah P 277 [a,I 8] y λb c=>z b c
def afq(H:Qt prog q h K):aF prog 163 #[q] h K:=aG H func163
def afr:=aq .lss k a λd=>aA d (aX P b [].toArray y λe f=>aY 3 c k λg=>aD 3 g e f λu i=>aq .add k (I 1) λj=>z j i) (Z c y)
def afs:=dG 59 24 [I 0,I 0,I 0] a a y λc d=>bB c λe=>bI (σ:=bt [11]) (λx hh f=>afr P e b c z x.1 hh (λa0 hz=>f (a0,()) hz)) (I 0,()) d
def aft(H:afs prog q r h K):aF prog 164 #[q,r] h K:=aG H func164 [(4,[11])]
def Qu:=aB 59 (.agg #[I 0,I 0,I 0]) y λe b=>ag b a λj=>ag b a λf=>ag b a λc=>aX P j [].toArray b λk d=>(ag d a λl=>l=f)/\(ag d a λm=>m=c)/\(aX P f [].toArray d λn g=>(ag g a λo=>o=c)/\(aX P c [].toArray g λp q=>aV [I 0,I 0,I 0] [(0,1,k),(1,1,n),(2,1,p)] λr=>aD 3 e r q λu i=>bq 3 i e λres=>z res i))
def afu(H:Qu prog q h K):aF prog 165 #[q] h K:=aG H func165
def Qv:=ah P 278 [a,I 1] y λb c=>z b c
def afv(H:Qv prog q h K):aF prog 166 #[q] h K:=aG H func166
def afw:=aq .lss k a λd=>aA d (aX P b [].toArray y λe f=>aY 1 c k λg=>aD 1 g e f λu i=>aq .add k (I 1) λj=>z j i) (Z c y)
def afx:=dG 3 8 [I 0] a a y λc d=>bB c λe=>bI (σ:=bt [11]) (λx hh f=>afw P e b c z x.1 hh (λa0 hz=>f (a0,()) hz)) (I 0,()) d
def Qw(H:afx prog q r h K):aF prog 167 #[q,r] h K:=aG H func167 [(4,[11])]
def afy:=aq .lss k a λd=>aA d (aX P b [].toArray y λe f=>aY 1 c k λg=>aD 1 g e f λu i=>aq .add k (I 1) λj=>z j i) (Z c y)
def afz:=dG 2 8 [I 0] a a y λc d=>bB c λe=>bI (σ:=bt [11]) (λx hh f=>afy P e b c z x.1 hh (λa0 hz=>f (a0,()) hz)) (I 0,()) d
def afA(H:afz prog q r h K):aF prog 168 #[q,r] h K:=aG H func168 [(4,[11])]
def CS(P:Program)(K:KT)(a:af):Prop:=K (.pointer none) a
def Qx:=aB 3 a y λe q=>aB 43 b q λg r=>aB 217 .nilFunc r λk s=>aD 1 k (.func (.func 279) #[] #[e]) s λu f=>ag f e λt=>aq .lss t (I 1) λv=>aA v (CS P z f) (ag f e λw=>ag f g λx=>ah P 52 [w,x] f λA l=>bY .not A λB=>aA B (CS P z l) (aX P (.func (.func 282) #[] #[g,k]) [c].toArray l λC m=>aA C (CS P z m) (aX P (.func (.func 282) #[] #[g,k]) [d].toArray m λD i=>aA D (CS P z i) (ag i e λj=>ag i g λE=>ah P 53 [E] i λF n=>(ag n e λG=>G=j)/\(ah P 284 [c] n λH o=>(ag o e λJ=>J=j)/\(ah P 284 [d] o λL p=>(ag p e λM=>M=j)/\(aV [I 0,aE,aE,aE] [(0,1,j),(1,1,F),(2,1,H),(3,1,L)] λN=>aB 134 N p λO Q=>z O Q)))))))
def afB(H:Qx prog q r s t h K):aF prog 169 #[q,r,s,t] h K:=aG H func169
def Qy:=ah P 285 [a,(.func (.func 286) #[a] #[]),b,c] y λd e=>z d e
def afC(H:Qy prog q r s h K):aF prog 170 #[q,r,s] h K:=aG H func170
def Qz:=ah P 285 [a,(.func (.func 287) #[a] #[]),b,c] y λd e=>z d e
def afD(H:Qz prog q r s h K):aF prog 171 #[q,r,s] h K:=aG H func171
def QA:=ag y a λb=>ah P 166 [b] y λc d=>cJ .i64 c λe=>z e d
def afE(H:QA prog q h K):aF prog 172 #[q] h K:=aG H func172
def QB(P:Program)(K:KT)(a:af):Prop:=K (.pointer none) a
def QC(P:Program)(d b e:Value)(K:KT)(c:Value)(a:af)(Z:KT):Prop:=aq .lss c d λf=>aA f (aI b λg=>au 3 g λi=>ag a i λj=>aq .add c (I 1) λk=>aI b λl=>au 2 l λm=>ag a m λn=>aq .mul k n λo=>aq .sub o (I 1) λp=>aY 1 j p λq=>ag a q λr=>aq .shr r e λs=>aq .neq s (.int .u8 0) λt=>aA t (K (.pointer none) a) (aq .add c (I 1) λu=>Z u a)) (K b a)
def QD:=ah P 67 [a,b] y λd e=>bL false .ptr d (.pointer none) λi=>aA i (QB P z e) (fQ c λj=>aI d λk=>au 3 k λl=>ag e l λm=>bB m λn=>aq .neq j n λo=>aA o (QB P z e) (aI d λp=>au 3 p λq=>ag e q λr=>uE r c e λu f=>aq .rem b (I 8) λg=>aq .eql g (I 0) λs=>aA s (z d f) (bI (σ:=bt [37]) (λx hh t=>QC P a d g z x.1 hh (λa0 hz=>t (a0,()) hz)) (I 0,()) f)))
def afF(H:QD prog q r s h K):aF prog 173 #[q,r,s] h K:=aG H func173 [(12,[37])]
def QE:=ah P 289 [a,b] y λc d=>bp c 0 λe=>bp c 1 λf=>z (.tuple #[e,f]) d
def afG(H:QE prog q r h K):aF prog 174 #[q,r] h K:=aG H func174
def QF:=aq .gtr k (I 0) λc=>aA c (aq .sub k (I 1) λd=>aq .quo d (I 4) λe=>ah P 290 [a,k,e] y λf b=>aA f (aq .sub k (I 1) λg=>aq .quo g (I 4) λi=>ah P 177 [a,k,i] b λn j=>aq .sub k (I 1) λl=>aq .quo l (I 4) λm=>z m j) (Z (.tuple #[]) b)) (Z (.tuple #[]) y)
def QG:=bI (σ:=bt [1]) (λx hh c=>QF P a z x.1 hh (λa0 hz=>c (a0,()) hz)) (b,()) y
def afH(H:QG prog q r h K):aF prog 175 #[q,r] h K:=aG H func175 [(0,[1])]
def QH(P:Program)(h0:Value)(h:af)(K:KT):Prop:=bL false .ptr h0 (.pointer none) λa=>aA a (K (I 0) h) (aI h0 λb=>au 0 b λc=>au 0 c λd=>ag h d λe=>bB e λf=>K f h)
def afI(H:QH prog q h K):aF prog 176 #[q] h K:=aG H func176
def QI(P:Program)(a c d:Value)(h:af)(K:KT):Prop:=aI a λg=>au 0 g λi=>ag h i λj=>aI a λk=>au 0 k λl=>ag h l λm=>aI a λn=>au 0 n λo=>ag h o λp=>aY 2 p d λq=>bq 2 h q λr=>aI a λs=>au 0 s λt=>ag h t λv=>aY 2 v c λw=>bq 2 h w λx=>aY 2 j c λy=>aD 2 y r h λu z=>aY 2 m d λA=>aD 2 A x z λai b=>aI a λB=>au 1 B λC=>ag b C λe=>aI a λD=>au 0 D λE=>ag b E λF=>aY 2 F c λG=>au 0 G λH=>ag b H λJ=>aI a λL=>au 1 L λM=>ag b M λf=>aI a λN=>au 0 N λO=>ag b O λQ=>aY 2 Q d λR=>au 0 R λS=>ag b S λT=>mI (.int .i64) (I 0) e J b λU V=>bp U 1 λW=>lP e W c V λaj X=>mI (.int .i64) (I 0) f T X λY Z=>bp Y 1 λaa=>lP f aa d Z λak ah=>K (.tuple #[]) ah
def afJ(H:QI prog q r s h K):aF prog 177 #[q,r,s] h K:=aG H func177
def QJ(f b:Value)(g:Loop)(c:Value)(i:af)(d:Exit->af->Prop):=iZ (y.size+1) g i λa=>ag a f λj=>ag a b λk=>aX P j [c,k].toArray a λl e=>aA l (aD 1 b c e λn m=>d .normal m) (d .normal e)
def QL(g:List Nat)(e:Value)(j:af)(k:List Nat->KT):=aB 3 (I 0) j λd l=>aD 1 d e l λv m=>ah P 291 [a,e] m λn c=>gO P n [13] (c.size+1) (c.push (.deferred (some []))) (λL x hh R=>QJ P c b d L x.1 hh R) (λf=>ag f d λo=>aq .eql o e λp=>aA p (de (c.size::g) f λq=>Z (.tuple #[]) q) (ag f d λr=>ah P 177 [a,e,r] f λw i=>ag i d λs=>k (c.size::g) s i)) (λt=>de (c.size::g) t λu=>Z (.tuple #[]) u) []
def QM:=aB 357 .nilFunc y λc d=>aD 1 c (.func (.func 290) #[a] #[]) d λu e=>bI (σ:=List Nat×bt [1]) (λx hh f=>QL P a c z x.1 x.2.1 hh (λg a0 hz=>f (g,(a0,())) hz)) ([],(b,())) e
def afK(H:QM prog q r h K):aF prog 178 #[q,r] h K:=aG H func178 [(1,[1])]
def QN:=aq .lss k a λp=>aA p (aY 1 b k λq=>ag y q λi=>ag y c λr=>ah P 180 [r,i] y λj s=>bp j 0 λt=>bp j 1 λG=>aB 59 (.agg #[I 0,I 0,I 0]) s λg v=>aD 3 g t v λu f=>ag f d λw=>bq 3 f g λx=>au 2 g λl=>ag f l λm=>aX P w [x].toArray f λA n=>(ag n l λB=>B=m)/\(aV [I 0,I 0,I 0] [(1,1,A),(2,1,m)] λC=>aX P e [i,C].toArray n λD o=>bY .not D λE=>aA E (Z (.tuple #[]) o) (aq .add k (I 1) λF=>z F o))) (Z (.tuple #[]) y)
def QO:=ag y b λe=>bB e λf=>bI (σ:=bt [11]) (λx hh g=>QN P f e c d a z x.1 hh (λa0 hz=>g (a0,()) hz)) (I 0,()) y
def afL(H:QO prog q r s t h K):aF prog 179 #[q,r,s,t] h K:=aG H func179 [(1,[11])]
def QS:=aB 59 (.agg #[I 0,I 0,I 0]) y λc d=>bL false .ptr a (.pointer none) λi=>aA i (aV [I 0,I 0,I 0] [] λj=>aD 3 c j d λu e=>bq 3 e c λres=>z (.tuple #[res,.bool false]) e) (aI a λk=>au 0 k λl=>au 3 l λm=>ag d m λn=>ah P 292 [n,b] d λf o=>bp f 0 λp=>bp f 1 λq=>aD 3 c p o λs g=>bq 3 g c λr=>z (.tuple #[r,q]) g)
def afM(H:QS prog q r h K):aF prog 180 #[q,r] h K:=aG H func180
def QT:=ah P 176 [a] y λe c=>aq .eql e (I 0) λf=>aA f (z (.tuple #[I 0,.bool false]) c) (aI a λg=>au 0 g λi=>au 1 i λj=>ag c j λk=>dP (.int .i64) (I 0) true c k b λd=>bp d 0 λl=>bp d 1 λm=>bY .not m λn=>aA n (z (.tuple #[I 0,.bool false]) c) (aI a λo=>au 0 o λp=>au 0 p λq=>ag c q λr=>aY 2 r l λs=>au 1 s λt=>ag c t λu=>z (.tuple #[u,.bool true]) c))
def afN(H:QT prog q r h K):aF prog 181 #[q,r] h K:=aG H func181
def QU(P:Program)(K:KT)(a:af):Prop:=K (I 2) a
def QV:=bL false .ptr a (.pointer none) λf=>aA f (z (I 1) y) (aI a λg=>au 0 g λi=>au 1 i λj=>ag y j λk=>dP (.int .i64) (I 0) true y k b λe=>bp e 0 λd=>bp e 1 λl=>aq .lss b (I 0) λm=>aA m (QU P z y) (aI a λn=>au 2 n λo=>ag y o λp=>aq .geq b p λq=>aA q (QU P z y) (bY .not l λr=>aA r (z (I 20) y) (aI a λs=>au 0 s λt=>au 0 t λv=>ag y v λw=>aY 2 w d λx=>au 1 x λA=>ag y A λB=>aq .lss B c λC=>aA C (z (I 2) y) (aI a λD=>au 0 D λE=>au 0 E λF=>ag y F λG=>aY 2 G d λH=>au 1 H λJ=>aD 1 J c y λu L=>aI a λM=>au 0 M λN=>ah P 175 [N,d] L λQ O=>z (I 0) O)))))
def afO(H:QV prog q r s h K):aF prog 182 #[q,r,s] h K:=aG H func182
def QW(P:Program)(b:Value)(K:KT)(c:Value)(a:af):Prop:=au 2 b λd=>ag a d λe=>aq .geq e (I 0) λf=>aA f (au 2 b λg=>ag a g λi=>aq .lss i c λj=>aA j (au 1 b λk=>ag a k λl=>aq .eql l (I 0) λm=>aA m (au 0 b λn=>ag a n λo=>aq .eql o (I 0) λp=>aA p (K (.bool true) a) (au 3 b λq=>ag a q λr=>aq .eql r (I 0) λs=>K s a)) (au 1 b λt=>ag a t λu=>aq .eql u (I 1) λv=>aA v (au 0 b λw=>ag a w λx=>aq .eql x (I 0) λy=>aA y (K (.bool true) a) (au 3 b λz=>ag a z λA=>aq .eql A (I 0) λB=>K B a)) (K (.bool false) a))) (K (.bool false) a)) (K (.bool false) a)
def QX:=aB 100 a y λE j=>akV (σ:=bt [4]) (λJ=>ag j b λF=>ag j b λe=>au 0 E λd=>ag j d λc=>(bH j λf Y=>ah P 36 [F] Y λn l=>(ag l b λZ=>Z=e)/\(ag l d λaa=>aa=c)/\((e9 (.int .i64) f (I 0) n l λu o=>(ag o b λaf=>af=e)/\(ag o d λai=>ai=c)/\(ah P 69 [e] o λaj G=>(ag G d λak=>ak=c)/\(e9 (.int .i64) f (I 1) aj G λbf p=>(ag p d λan=>an=c)/\(dP (.int .i64) (I 0) false p f c λaq=>J (aq,()) p))))/\(ah P 69 [e] l λH q=>(ag q d λav=>av=c)/\((e9 (.int .i64) f (I 0) n q λbg L=>(ag L d λax=>ax=c)/\(e9 (.int .i64) f (I 1) H L λbh r=>(ag r d λay=>ay=c)/\(dP (.int .i64) (I 0) false r f c λaz=>J (az,()) r)))/\(e9 (.int .i64) f (I 1) H q λbk M=>(ag M d λaA=>aA=c)/\(e9 (.int .i64) f (I 0) n M λbl s=>(ag s d λaC=>aC=c)/\(dP (.int .i64) (I 0) false s f c λaD=>J (aD,()) s)))))))/\(ah P 36 [F] j λk m=>(ag m b λaE=>aE=e)/\(ag m d λaF=>aF=c)/\((bH m λg N=>(e9 (.int .i64) g (I 0) k N λbn t=>(ag t b λaG=>aG=e)/\(ag t d λaH=>aH=c)/\(ah P 69 [e] t λaI O=>(ag O d λaJ=>aJ=c)/\(e9 (.int .i64) g (I 1) aI O λbp v=>(ag v d λaK=>aK=c)/\(dP (.int .i64) (I 0) false v g c λaL=>J (aL,()) v))))/\(ah P 69 [e] N λQ w=>(ag w d λaM=>aM=c)/\((e9 (.int .i64) g (I 0) k w λbq R=>(ag R d λaN=>aN=c)/\(e9 (.int .i64) g (I 1) Q R λbr A=>(ag A d λaO=>aO=c)/\(dP (.int .i64) (I 0) false A g c λaP=>J (aP,()) A)))/\(e9 (.int .i64) g (I 1) Q w λbu S=>(ag S d λaQ=>aQ=c)/\(e9 (.int .i64) g (I 0) k S λbw B=>(ag B d λaR=>aR=c)/\(dP (.int .i64) (I 0) false B g c λaS=>J (aS,()) B))))))/\(ah P 69 [e] m λT U=>(ag U d λaT=>aT=c)/\(bH U λi V=>(e9 (.int .i64) i (I 0) k V λbx W=>(ag W d λaU=>aU=c)/\(e9 (.int .i64) i (I 1) T W λbz C=>(ag C d λaV=>aV=c)/\(dP (.int .i64) (I 0) false C i c λaW=>J (aW,()) C)))/\(e9 (.int .i64) i (I 1) T V λbA X=>(ag X d λaX=>aX=c)/\(e9 (.int .i64) i (I 0) k X λbB D=>(ag D d λaY=>aY=c)/\(dP (.int .i64) (I 0) false D i c λaZ=>J (aZ,()) D)))))))) (λx hh=>QW P E z x.1 hh)
def afP(H:QX prog q r h K):aF prog 183 #[q,r] h K:=aG H func183 [(1,[4])]
def QY:=aq .lss k a λe=>aA e (aY 4 b k λf=>bq 4 y f λg=>aX P c [g].toArray y λi d=>aA i (Z k d) (aq .add k (I 1) λj=>z j d)) (Z (I (-1)) y)
def QZ:=bB a λc=>bI (σ:=bt [8]) (λx hh d=>QY P c a b z x.1 hh (λa0 hz=>d (a0,()) hz)) (I 0,()) y
def afQ(H:QZ prog q r h K):aF prog 184 #[q,r] h K:=aG H func184 [(3,[8])]
def xB(P:Program)(K:KT)(b c d:Value)(Z:KT)(e:Value)(a:af):Prop:=aA e (K (.tuple #[]) a) (au 1 b λf=>ag a f λg=>aD 1 c g a λk i=>aq .add d (I 1) λj=>Z j i)
def Q0:=aq .lss k a λl=>aA l (aY 1 b k λm=>ag y m λn=>ag y c λo=>ah P 180 [o,n] y λi p=>bp i 0 λq=>bp i 1 λr=>aB 59 (.agg #[I 0,I 0,I 0]) p λf s=>aD 3 f q s λu g=>bq 3 g f λj=>aA r (au 0 f λt=>ag g t λv=>ag g d λw=>aq .eql v w λx=>aX P e [j,x].toArray g λA B=>bY .not A λC=>xB P Z f d k z C B) (aX P e [j,.bool false].toArray g λD E=>bY .not D λF=>xB P Z f d k z F E)) (Z (.tuple #[]) y)
def Q1:=ag y b λe=>bB e λf=>bI (σ:=bt [11]) (λx hh g=>Q0 P f e c d a z x.1 hh (λa0 hz=>g (a0,()) hz)) (I 0,()) y
def afR(H:Q1 prog q r s t h K):aF prog 185 #[q,r,s,t] h K:=aG H func185 [(1,[11])]
def Q2(P:Program)(c l0:Value)(K:KT)(b:Value)(a:af)(Z:KT):Prop:=aq .lss b c λd=>aA d (aY 1 l0 b λe=>ag a e λf=>bY .not f λg=>aA g (K (.bool false) a) (aq .add b (I 1) λi=>Z i a)) (K (.bool true) a)
def Q4:=bB a λb=>bI (σ:=bt [7]) (λx hh c=>Q2 P b a z x.1 hh (λa0 hz=>c (a0,()) hz)) (I 0,()) y
def afS(H:Q4 prog q h K):aF prog 186 #[q] h K:=aG H func186 [(3,[7])]
def Q5(P:Program)(a:Value)(h:af)(K:KT):Prop:=bL false .ptr a (.pointer none) λb=>aA b (K (I 0) h) (aI a λc=>au 0 c λd=>ag h d λe=>K e h)
def afT(H:Q5 prog q h K):aF prog 187 #[q] h K:=aG H func187
def Q6(P:Program)(a:Value)(h:af)(K:KT):Prop:=bL false .ptr a (.pointer none) λb=>aA b (K (I 0) h) (aI a λc=>au 1 c λd=>ag h d λe=>K e h)
def afU(H:Q6 prog q h K):aF prog 188 #[q] h K:=aG H func188
def Q7(P:Program)(a:Value)(h:af)(K:KT):Prop:=aB 293 a h λb c=>K (.func (.func 293) #[] #[b]) c
def afV(H:Q7 prog q h K):aF prog 189 #[q] h K:=aG H func189
def Q8(P:Program)(a:Value)(h:af)(K:KT):Prop:=K (.tuple #[aE,aE]) h
def afW(H:Q8 prog q h K):aF prog 190 #[q] h K:=aG H func190
def Q9:=aI a λd=>au 3 d λe=>ag y e λf=>aI a λg=>au 4 g λi=>au 1 i λj=>ag y j λk=>aI a λl=>au 4 l λm=>au 2 m λn=>ag y n λo=>aI a λp=>au 4 p λq=>au 3 q λr=>ag y r λs=>ah P 210 [f,k,o,s] y λc b=>aI a λt=>au 3 t λu=>ag b u λv=>aI a λw=>au 4 w λx=>au 2 x λA=>ag b A λB=>ah P 211 [v,c,B] b λC D=>z (.tuple #[c,C]) D
def afX(H:Q9 prog q h K):aF prog 191 #[q] h K:=aG H func191
def Ra(P:Program)(K:KT)(a:af):Prop:=K aE a
def Rb(P:Program)(d e c:Value)(K:KT)(a:Value)(b:af)(Z:KT):Prop:=aq .lss a d λf=>aA f (aY 1 e a λg=>ag b g λi=>aY 1 c i λj=>aD 1 j (.bool true) b λu k=>aq .add a (I 1) λl=>Z l k) (K c b)
def Rc:=aq .lss b (I 0) λf=>aA f (Ra P z y) (ah P 187 [a] y λg c=>aq .geq b g λi=>aA i (Ra P z c) (ah P 188 [a] c λd j=>dG 4 1 [.bool false] d d j λk l=>ah P 300 [a,b] l λe m=>bB e λn=>bI (σ:=bt [23]) (λx hh o=>Rb P n e k z x.1 hh (λa0 hz=>o (a0,()) hz)) (I 0,()) m))
def afY(H:Rc prog q r h K):aF prog 192 #[q,r] h K:=aG H func192 [(7,[23])]
def GX(P:Program)(K:KT)(a:af):Prop:=K (I (-1)) a
def aqV:=bL false .ptr a (.pointer none) λc=>aA c (GX P z y) (aq .lss b (I 0) λd=>aA d (GX P z y) (aI a λe=>au 0 e λf=>ag y f λg=>bB g λi=>aq .geq b i λj=>aA j (GX P z y) (aI a λk=>au 0 k λl=>ag y l λm=>aY 1 m b λn=>ag y n λo=>z o y)))
def afZ(H:aqV prog q r h K):aF prog 193 #[q,r] h K:=aG H func193
def Re(P:Program)(c:Value)(K:KT)(b:Value)(a:af):Prop:=au 0 b λk=>ag a k λl=>aq .geq l (I 72057594037927936) λm=>aA m (aV [I 0,I 0,aE,aE] [(0,1,I 20)] λn=>au 2 b λf=>ag a f λg=>aD 4 c n a λw d=>(ag d f λo=>o=g)/\(bq 4 d c λres=>K (.tuple #[res,g]) d)) (au 0 b λp=>ag a p λq=>au 1 b λr=>ag a r λs=>aV [I 0,I 0,aE,aE] [(1,1,q),(2,1,s)] λt=>au 2 b λi=>ag a i λj=>aD 4 c t a λx e=>(ag e i λu=>u=j)/\(bq 4 e c λv=>K (.tuple #[v,j]) e))
def Rf:=aB 56 b y λe n=>aB 62 (.agg #[I 0,I 0,aE,aE]) n λo d=>akV (σ:=bt [7]) (λJ=>ag d c λf=>aI a λp=>au 0 p λq=>ag d q λg=>au 1 e λr=>ag d r λs=>au 2 e λt=>ag d t λv=>aV [I 0,I 0,aE,aE] [(0,1,s),(1,1,v)] λi=>(aX P f [g,i].toArray d λj w=>bp j 0 λA=>bp j 1 λH=>aB 303 (.agg #[I 0,aE,aE]) w λk B=>aD 3 k A B λu C=>J (k,()) C)/\(aB 303 (.agg #[I 0,aE,aE]) d λl D=>aX P f [g,i].toArray D λm E=>bp m 0 λF=>bp m 1 λL=>aD 3 l F E λM G=>J (l,()) G)) (λx hh=>Re P o z x.1 hh)
def af0(H:Rf prog q r s h K):aF prog 194 #[q,r,s] h K:=aG H func194 [(1,[7])]
def Rg:=aq .geq a (I 0) λc=>aA c (ag y b λd=>ah P 36 [d] y λe f=>aq .lss a e λg=>z g f) (z (.bool false) y)
def af1(H:Rg prog q r h K):aF prog 195 #[q,r] h K:=aG H func195
def Rh(P:Program)(l0 n1:Value)(h:af)(K:KT):Prop:=bB l0 λa=>aq .eql a (I 0) λb=>aA b (K (.bool true) h) (bB l0 λc=>aq .eql c n1 λd=>K d h)
def af2(H:Rh prog q r h K):aF prog 196 #[q,r] h K:=aG H func196
def Rj(P:Program)(l0 n1:Value)(h:af)(K:KT):Prop:=bB l0 λa=>aq .eql a (I 0) λb=>aA b (K (.bool true) h) (bB l0 λc=>aq .eql c n1 λd=>K d h)
def af3(H:Rj prog q r h K):aF prog 197 #[q,r] h K:=aG H func197
def Rk:=uX 3 (bO [I 0] 1) [(0,1,I (-1))] 1 y λc d=>ah P 36 [a] d λe f=>ah P 86 [c,e] f λg i=>aI k λj=>au 3 j λl=>aD 1 l g i λu m=>aI k λn=>au 5 n λo=>aD 1 o (.func (.func 301) #[] #[b]) m λt p=>aI k λq=>au 6 q λr=>aD 1 r (.func (.func 302) #[] #[b]) p λv s=>Z k s
def Rl:=aB 307 b y λj k=>akV (σ:=bt [5]) (λJ=>ah P 36 [a] k λl m=>ah P 84 [l] m λe n=>ah P 36 [a] n λc f=>(dG 2 8 [I 0] c c f λo p=>ah P 36 [a] p λg q=>dG 4 1 [.bool false] g g q λr s=>aV [.pointer none,.pointer none,aE,aE,aE,.nilFunc,.nilFunc,aE] [(0,1,a),(1,1,e),(2,1,o),(4,1,r)] λt=>aB 425 t s λu v=>J (u,()) v)/\(ah P 36 [a] f λd i=>(dG 2 8 [I 0] c c i λw A=>dG 4 1 [.bool false] d d A λB C=>aV [.pointer none,.pointer none,aE,aE,aE,.nilFunc,.nilFunc,aE] [(0,1,a),(1,1,e),(2,1,w),(4,1,B)] λD=>aB 425 D C λE F=>J (E,()) F)/\(dG 4 1 [.bool false] d d i λG H=>dG 2 8 [I 0] c c H λL M=>aV [.pointer none,.pointer none,aE,aE,aE,.nilFunc,.nilFunc,aE] [(0,1,a),(1,1,e),(2,1,L),(4,1,G)] λN=>aB 425 N M λO Q=>J (O,()) Q))) (λx hh=>Rk P a j z x.1 hh)
def af4(H:Rl prog q r h K):aF prog 198 #[q,r] h K:=aG H func198 [(1,[5])]
def Rm(n:af->Prop):=aI a λo=>au 1 o λp=>ag y p λq=>ah P 88 [q] y λg d=>bp g 0 λc=>bp g 1 λaF=>bp g 2 λr=>bY .not r λs=>aA s (aI a λt=>au 7 t λv=>ag d v λw=>aV [I 0,aE,aE] [(0,1,I 72057594037927936),(2,1,w)] λx=>aD 3 b x d λu i=>bq 3 i b λres=>Z res i) (aI a λz=>au 4 z λA=>ag d A λB=>aY 1 B c λC=>aD 1 C (.bool true) d λaG e=>aI a λD=>au 7 D λE=>ag e E λF=>aI a λG=>au 2 G λH=>ag e H λJ=>aY 1 J c λL=>ag e L λM=>aV [I 0,I 0,I 0,I 0] [(0,1,I 0),(2,1,c),(3,1,M)] λN=>uX 100 (bO [I 0,I 0,I 0,I 0] 1) [(0,4,N)] 1 e λO Q=>uY 100 4 32 [I 0,I 0,I 0,I 0] F O Q λR S=>aI a λT=>au 7 T λU=>aD 1 U R S λaH j=>aq .eql c k λV=>aA V (ah P 304 [a,k] j λW X=>ah P 29 [W] X λl Y=>ah P 208 [l] Y λaJ f=>aI a λaa=>au 2 aa λai=>ag f ai λaj=>aY 1 aj k λak=>ag f ak λan=>aI a λav=>au 7 av λax=>ag f ax λay=>aV [I 0,aE,aE] [(0,1,an),(1,1,l),(2,1,ay)] λaz=>aD 3 b az f λaK m=>bq 3 m b λaB=>Z aB m) (ah P 305 [a,c] j λaL aC=>n aC))
def Rn:=aB 303 (.agg #[I 0,aE,aE]) y λd e=>ah P 303 [a,b,I 0,I (-1)] e λi f=>bI (σ:=bt []) (λx hh g=>Rm P a d z c hh (λhz=>g () hz)) () f
def af5(H:Rn prog q r s h K):aF prog 199 #[q,r,s] h K:=aG H func199 [(2,[])]
def Rp(P:Program)(K:KT)(a:Value)(b:af):Prop:=K a b
def Rq:=aB 47 a y λc p=>aB 307 b p λd i=>akV (σ:=bt [4]) (λJ=>au 0 d λq=>ag i q λr=>aX P (.func (.func 306) #[] #[c]) [r].toArray i λs g=>aA s (au 1 d λt=>ag g t λu=>aX P (.func (.func 306) #[] #[c]) [u].toArray g λv e=>aA v (au 2 d λj=>ag e j λk=>bB k λw=>ag e c λA=>ah P 69 [A] e λB l=>(ag l j λC=>C=k)/\(aX P (.func (.func 307) #[] #[]) [w,B].toArray l λD f=>aA D (au 3 d λm=>ag f m λn=>bB n λE=>ag f c λF=>ah P 36 [F] f λG o=>(ag o m λH=>H=n)/\(aX P (.func (.func 307) #[] #[]) [E,G].toArray o λI L=>J (I,()) L)) (J (.bool false,()) f))) (J (.bool false,()) e)) (J (.bool false,()) g)) (λx hh=>Rp P z x.1 hh)
def af6(H:Rq prog q r h K):aF prog 200 #[q,r] h K:=aG H func200 [(3,[4])]
def GY(O a p4 b c d:Value)(q:af)(e:KT):=aI O λbE=>au 0 bE λbF=>ag q bF λg=>aI O λbG=>au 5 bG λf=>(ah P 36 [g] q λi v=>(ah P 84 [i] v λm w=>(bH w λQ R=>(bH R λbI bJ=>bH bJ λbK bL=>aV [.pointer none,I 0,I 0,.nilFunc,.nilFunc,.map none,.map none,.map none] [(0,1,m),(1,1,a),(2,1,b),(3,1,c),(4,1,d),(5,1,Q),(6,1,bI),(7,1,bK)] λbM=>aB 429 bM bL λbN bO=>b9 1 2 f a λbP=>aD 1 bP bN bO λu bQ=>e (.tuple #[]) bQ)/\(bH R λbR bS=>bH bS λbT bU=>aV [.pointer none,I 0,I 0,.nilFunc,.nilFunc,.map none,.map none,.map none] [(0,1,m),(1,1,a),(2,1,b),(3,1,c),(4,1,d),(5,1,Q),(6,1,bT),(7,1,bR)] λbV=>aB 429 bV bU λbW bX=>b9 1 2 f a λbY=>aD 1 bY bW bX λp5 bZ=>e (.tuple #[]) bZ))/\(bH w λS T=>(bH T λb5 b6=>bH b6 λb7 b8=>aV [.pointer none,I 0,I 0,.nilFunc,.nilFunc,.map none,.map none,.map none] [(0,1,m),(1,1,a),(2,1,b),(3,1,c),(4,1,d),(5,1,b5),(6,1,S),(7,1,b7)] λcc=>aB 429 cc b8 λcg cj=>b9 1 2 f a λck=>aD 1 ck cg cj λp6 cm=>e (.tuple #[]) cm)/\(bH T λcn cq=>bH cq λcr ct=>aV [.pointer none,I 0,I 0,.nilFunc,.nilFunc,.map none,.map none,.map none] [(0,1,m),(1,1,a),(2,1,b),(3,1,c),(4,1,d),(5,1,cr),(6,1,S),(7,1,cn)] λcu=>aB 429 cu ct λcv cw=>b9 1 2 f a λcz=>aD 1 cz cv cw λp7 cA=>e (.tuple #[]) cA))/\(bH w λU V=>(bH V λcB cC=>bH cC λcD cE=>aV [.pointer none,I 0,I 0,.nilFunc,.nilFunc,.map none,.map none,.map none] [(0,1,m),(1,1,a),(2,1,b),(3,1,c),(4,1,d),(5,1,cB),(6,1,cD),(7,1,U)] λcF=>aB 429 cF cE λcG cH=>b9 1 2 f a λcI=>aD 1 cI cG cH λp8 cJ=>e (.tuple #[]) cJ)/\(bH V λcK cL=>bH cL λcM cN=>aV [.pointer none,I 0,I 0,.nilFunc,.nilFunc,.map none,.map none,.map none] [(0,1,m),(1,1,a),(2,1,b),(3,1,c),(4,1,d),(5,1,cM),(6,1,cK),(7,1,U)] λcO=>aB 429 cO cN λcP cQ=>b9 1 2 f a λcR=>aD 1 cR cP cQ λp9 cS=>e (.tuple #[]) cS)))/\(bH v λn x=>(ah P 84 [i] x λW X=>(bH X λcT cU=>bH cU λcV cW=>aV [.pointer none,I 0,I 0,.nilFunc,.nilFunc,.map none,.map none,.map none] [(0,1,W),(1,1,a),(2,1,b),(3,1,c),(4,1,d),(5,1,n),(6,1,cT),(7,1,cV)] λcZ=>aB 429 cZ cW λc4 c5=>b9 1 2 f a λc6=>aD 1 c6 c4 c5 λqa c7=>e (.tuple #[]) c7)/\(bH X λc8 c9=>bH c9 λdc de=>aV [.pointer none,I 0,I 0,.nilFunc,.nilFunc,.map none,.map none,.map none] [(0,1,W),(1,1,a),(2,1,b),(3,1,c),(4,1,d),(5,1,n),(6,1,dc),(7,1,c8)] λdg=>aB 429 dg de λdh di=>b9 1 2 f a λdm=>aD 1 dm dh di λqb dn=>e (.tuple #[]) dn))/\(bH x λY Z=>(ah P 84 [i] Z λdr dw=>bH dw λdx dy=>aV [.pointer none,I 0,I 0,.nilFunc,.nilFunc,.map none,.map none,.map none] [(0,1,dr),(1,1,a),(2,1,b),(3,1,c),(4,1,d),(5,1,n),(6,1,Y),(7,1,dx)] λdz=>aB 429 dz dy λdA dB=>b9 1 2 f a λdD=>aD 1 dD dA dB λqc dF=>e (.tuple #[]) dF)/\(bH Z λdG dH=>ah P 84 [i] dH λdI dJ=>aV [.pointer none,I 0,I 0,.nilFunc,.nilFunc,.map none,.map none,.map none] [(0,1,dI),(1,1,a),(2,1,b),(3,1,c),(4,1,d),(5,1,n),(6,1,Y),(7,1,dG)] λdK=>aB 429 dK dJ λdL dM=>b9 1 2 f a λdN=>aD 1 dN dL dM λqd dO=>e (.tuple #[]) dO))/\(bH x λaa ai=>(ah P 84 [i] ai λdP dQ=>bH dQ λdR dS=>aV [.pointer none,I 0,I 0,.nilFunc,.nilFunc,.map none,.map none,.map none] [(0,1,dP),(1,1,a),(2,1,b),(3,1,c),(4,1,d),(5,1,n),(6,1,dR),(7,1,aa)] λdU=>aB 429 dU dS λdV dW=>b9 1 2 f a λdX=>aD 1 dX dV dW λqe dY=>e (.tuple #[]) dY)/\(bH ai λdZ ec=>ah P 84 [i] ec λee ef=>aV [.pointer none,I 0,I 0,.nilFunc,.nilFunc,.map none,.map none,.map none] [(0,1,ee),(1,1,a),(2,1,b),(3,1,c),(4,1,d),(5,1,n),(6,1,dZ),(7,1,aa)] λei=>aB 429 ei ef λej ek=>b9 1 2 f a λen=>aD 1 en ej ek λqf eo=>e (.tuple #[]) eo)))/\(bH v λo y=>(ah P 84 [i] y λaj ak=>(bH ak λep er=>bH er λeu ew=>aV [.pointer none,I 0,I 0,.nilFunc,.nilFunc,.map none,.map none,.map none] [(0,1,aj),(1,1,a),(2,1,b),(3,1,c),(4,1,d),(5,1,ep),(6,1,o),(7,1,eu)] λey=>aB 429 ey ew λez eA=>b9 1 2 f a λeB=>aD 1 eB ez eA λqg eC=>e (.tuple #[]) eC)/\(bH ak λeD eE=>bH eE λeF eG=>aV [.pointer none,I 0,I 0,.nilFunc,.nilFunc,.map none,.map none,.map none] [(0,1,aj),(1,1,a),(2,1,b),(3,1,c),(4,1,d),(5,1,eF),(6,1,o),(7,1,eD)] λeH=>aB 429 eH eG λeL eM=>b9 1 2 f a λeN=>aD 1 eN eL eM λqh eO=>e (.tuple #[]) eO))/\(bH y λan aq=>(ah P 84 [i] aq λeP eR=>bH eR λeS eT=>aV [.pointer none,I 0,I 0,.nilFunc,.nilFunc,.map none,.map none,.map none] [(0,1,eP),(1,1,a),(2,1,b),(3,1,c),(4,1,d),(5,1,an),(6,1,o),(7,1,eS)] λeU=>aB 429 eU eT λeV eW=>b9 1 2 f a λeX=>aD 1 eX eV eW λqi eY=>e (.tuple #[]) eY)/\(bH aq λeZ e3=>ah P 84 [i] e3 λe4 e5=>aV [.pointer none,I 0,I 0,.nilFunc,.nilFunc,.map none,.map none,.map none] [(0,1,e4),(1,1,a),(2,1,b),(3,1,c),(4,1,d),(5,1,an),(6,1,o),(7,1,eZ)] λe6=>aB 429 e6 e5 λe7 e8=>b9 1 2 f a λe9=>aD 1 e9 e7 e8 λqj fc=>e (.tuple #[]) fc))/\(bH y λav ax=>(ah P 84 [i] ax λfe ff=>bH ff λfh fk=>aV [.pointer none,I 0,I 0,.nilFunc,.nilFunc,.map none,.map none,.map none] [(0,1,fe),(1,1,a),(2,1,b),(3,1,c),(4,1,d),(5,1,fh),(6,1,o),(7,1,av)] λfm=>aB 429 fm fk λfo fq=>b9 1 2 f a λfu=>aD 1 fu fo fq λqk fz=>e (.tuple #[]) fz)/\(bH ax λfA fB=>ah P 84 [i] fB λfC fD=>aV [.pointer none,I 0,I 0,.nilFunc,.nilFunc,.map none,.map none,.map none] [(0,1,fC),(1,1,a),(2,1,b),(3,1,c),(4,1,d),(5,1,fA),(6,1,o),(7,1,av)] λfE=>aB 429 fE fD λfF fG=>b9 1 2 f a λfH=>aD 1 fH fF fG λql fI=>e (.tuple #[]) fI)))/\(bH v λp z=>(ah P 84 [i] z λay az=>(bH az λfJ fK=>bH fK λfL fM=>aV [.pointer none,I 0,I 0,.nilFunc,.nilFunc,.map none,.map none,.map none] [(0,1,ay),(1,1,a),(2,1,b),(3,1,c),(4,1,d),(5,1,fJ),(6,1,fL),(7,1,p)] λfN=>aB 429 fN fM λfO fP=>b9 1 2 f a λfQ=>aD 1 fQ fO fP λqm fR=>e (.tuple #[]) fR)/\(bH az λfS fT=>bH fT λfU fV=>aV [.pointer none,I 0,I 0,.nilFunc,.nilFunc,.map none,.map none,.map none] [(0,1,ay),(1,1,a),(2,1,b),(3,1,c),(4,1,d),(5,1,fU),(6,1,fS),(7,1,p)] λfW=>aB 429 fW fV λfZ ga=>b9 1 2 f a λgb=>aD 1 gb fZ ga λqn gd=>e (.tuple #[]) gd))/\(bH z λaA aC=>(ah P 84 [i] aC λgf gh=>bH gh λgi gj=>aV [.pointer none,I 0,I 0,.nilFunc,.nilFunc,.map none,.map none,.map none] [(0,1,gf),(1,1,a),(2,1,b),(3,1,c),(4,1,d),(5,1,aA),(6,1,gi),(7,1,p)] λgl=>aB 429 gl gj λgm gp=>b9 1 2 f a λgq=>aD 1 gq gm gp λqo gr=>e (.tuple #[]) gr)/\(bH aC λgu gv=>ah P 84 [i] gv λgw gx=>aV [.pointer none,I 0,I 0,.nilFunc,.nilFunc,.map none,.map none,.map none] [(0,1,gw),(1,1,a),(2,1,b),(3,1,c),(4,1,d),(5,1,aA),(6,1,gu),(7,1,p)] λgy=>aB 429 gy gx λgz gA=>b9 1 2 f a λgB=>aD 1 gB gz gA λqp gC=>e (.tuple #[]) gC))/\(bH z λaE aF=>(ah P 84 [i] aF λgD gE=>bH gE λgF gG=>aV [.pointer none,I 0,I 0,.nilFunc,.nilFunc,.map none,.map none,.map none] [(0,1,gD),(1,1,a),(2,1,b),(3,1,c),(4,1,d),(5,1,gF),(6,1,aE),(7,1,p)] λgH=>aB 429 gH gG λgI gJ=>b9 1 2 f a λgK=>aD 1 gK gI gJ λqq gL=>e (.tuple #[]) gL)/\(bH aF λgM gN=>ah P 84 [i] gN λgO gP=>aV [.pointer none,I 0,I 0,.nilFunc,.nilFunc,.map none,.map none,.map none] [(0,1,gO),(1,1,a),(2,1,b),(3,1,c),(4,1,d),(5,1,gM),(6,1,aE),(7,1,p)] λgQ=>aB 429 gQ gP λgR gT=>b9 1 2 f a λgU=>aD 1 gU gR gT λqs gV=>e (.tuple #[]) gV))))/\(bH q λj A=>(ah P 36 [g] A λr B=>(ah P 84 [r] B λaG aH=>(bH aH λgW gX=>bH gX λgY gZ=>aV [.pointer none,I 0,I 0,.nilFunc,.nilFunc,.map none,.map none,.map none] [(0,1,aG),(1,1,a),(2,1,b),(3,1,c),(4,1,d),(5,1,j),(6,1,gW),(7,1,gY)] λhD=>aB 429 hD gZ λhG hM=>b9 1 2 f a λhU=>aD 1 hU hG hM λqt ia=>e (.tuple #[]) ia)/\(bH aH λic ig=>bH ig λij iq=>aV [.pointer none,I 0,I 0,.nilFunc,.nilFunc,.map none,.map none,.map none] [(0,1,aG),(1,1,a),(2,1,b),(3,1,c),(4,1,d),(5,1,j),(6,1,ij),(7,1,ic)] λir=>aB 429 ir iq λiu iw=>b9 1 2 f a λiy=>aD 1 iy iu iw λqu iz=>e (.tuple #[]) iz))/\(bH B λaJ aK=>(ah P 84 [r] aK λiA iB=>bH iB λiC iD=>aV [.pointer none,I 0,I 0,.nilFunc,.nilFunc,.map none,.map none,.map none] [(0,1,iA),(1,1,a),(2,1,b),(3,1,c),(4,1,d),(5,1,j),(6,1,aJ),(7,1,iC)] λiE=>aB 429 iE iD λiF iG=>b9 1 2 f a λiH=>aD 1 iH iF iG λqv iI=>e (.tuple #[]) iI)/\(bH aK λiJ iK=>ah P 84 [r] iK λiL iM=>aV [.pointer none,I 0,I 0,.nilFunc,.nilFunc,.map none,.map none,.map none] [(0,1,iL),(1,1,a),(2,1,b),(3,1,c),(4,1,d),(5,1,j),(6,1,aJ),(7,1,iJ)] λiN=>aB 429 iN iM λiO iP=>b9 1 2 f a λiQ=>aD 1 iQ iO iP λqw iR=>e (.tuple #[]) iR))/\(bH B λaL aM=>(ah P 84 [r] aM λiS iT=>bH iT λiU iV=>aV [.pointer none,I 0,I 0,.nilFunc,.nilFunc,.map none,.map none,.map none] [(0,1,iS),(1,1,a),(2,1,b),(3,1,c),(4,1,d),(5,1,j),(6,1,iU),(7,1,aL)] λiW=>aB 429 iW iV λiX iY=>b9 1 2 f a λiZ=>aD 1 iZ iX iY λqx ja=>e (.tuple #[]) ja)/\(bH aM λjb jc=>ah P 84 [r] jc λjd je=>aV [.pointer none,I 0,I 0,.nilFunc,.nilFunc,.map none,.map none,.map none] [(0,1,jd),(1,1,a),(2,1,b),(3,1,c),(4,1,d),(5,1,j),(6,1,jb),(7,1,aL)] λjf=>aB 429 jf je λjg jh=>b9 1 2 f a λji=>aD 1 ji jg jh λqy jj=>e (.tuple #[]) jj)))/\(bH A λC aN=>(ah P 36 [g] aN λaO aP=>(ah P 84 [aO] aP λjk jl=>bH jl λjm jo=>aV [.pointer none,I 0,I 0,.nilFunc,.nilFunc,.map none,.map none,.map none] [(0,1,jk),(1,1,a),(2,1,b),(3,1,c),(4,1,d),(5,1,j),(6,1,C),(7,1,jm)] λjq=>aB 429 jq jo λjr js=>b9 1 2 f a λjt=>aD 1 jt jr js λqz jv=>e (.tuple #[]) jv)/\(bH aP λjw jx=>ah P 84 [aO] jx λjy jA=>aV [.pointer none,I 0,I 0,.nilFunc,.nilFunc,.map none,.map none,.map none] [(0,1,jy),(1,1,a),(2,1,b),(3,1,c),(4,1,d),(5,1,j),(6,1,C),(7,1,jw)] λjB=>aB 429 jB jA λjC jD=>b9 1 2 f a λjE=>aD 1 jE jC jD λqA jF=>e (.tuple #[]) jF))/\(bH aN λjG jH=>ah P 36 [g] jH λjI jJ=>ah P 84 [jI] jJ λjK jL=>aV [.pointer none,I 0,I 0,.nilFunc,.nilFunc,.map none,.map none,.map none] [(0,1,jK),(1,1,a),(2,1,b),(3,1,c),(4,1,d),(5,1,j),(6,1,C),(7,1,jG)] λjM=>aB 429 jM jL λjN jO=>b9 1 2 f a λjP=>aD 1 jP jN jO λqB jQ=>e (.tuple #[]) jQ))/\(bH A λD aQ=>(ah P 36 [g] aQ λaR aS=>(ah P 84 [aR] aS λjR jS=>bH jS λjT jU=>aV [.pointer none,I 0,I 0,.nilFunc,.nilFunc,.map none,.map none,.map none] [(0,1,jR),(1,1,a),(2,1,b),(3,1,c),(4,1,d),(5,1,j),(6,1,jT),(7,1,D)] λjV=>aB 429 jV jU λjW jX=>b9 1 2 f a λjY=>aD 1 jY jW jX λqC jZ=>e (.tuple #[]) jZ)/\(bH aS λj0 j3=>ah P 84 [aR] j3 λj4 j5=>aV [.pointer none,I 0,I 0,.nilFunc,.nilFunc,.map none,.map none,.map none] [(0,1,j4),(1,1,a),(2,1,b),(3,1,c),(4,1,d),(5,1,j),(6,1,j0),(7,1,D)] λj6=>aB 429 j6 j5 λj7 j8=>b9 1 2 f a λj9=>aD 1 j9 j7 j8 λqD kf=>e (.tuple #[]) kf))/\(bH aQ λkg ki=>ah P 36 [g] ki λkj kn=>ah P 84 [kj] kn λko kq=>aV [.pointer none,I 0,I 0,.nilFunc,.nilFunc,.map none,.map none,.map none] [(0,1,ko),(1,1,a),(2,1,b),(3,1,c),(4,1,d),(5,1,j),(6,1,kg),(7,1,D)] λkr=>aB 429 kr kq λku kz=>b9 1 2 f a λkA=>aD 1 kA ku kz λqE kB=>e (.tuple #[]) kB)))/\(bH q λk E=>(ah P 36 [g] E λs F=>(ah P 84 [s] F λaT aU=>(bH aU λkC kD=>bH kD λkE kF=>aV [.pointer none,I 0,I 0,.nilFunc,.nilFunc,.map none,.map none,.map none] [(0,1,aT),(1,1,a),(2,1,b),(3,1,c),(4,1,d),(5,1,kC),(6,1,k),(7,1,kE)] λkG=>aB 429 kG kF λkH kI=>b9 1 2 f a λkJ=>aD 1 kJ kH kI λqF kK=>e (.tuple #[]) kK)/\(bH aU λkL kM=>bH kM λkN kO=>aV [.pointer none,I 0,I 0,.nilFunc,.nilFunc,.map none,.map none,.map none] [(0,1,aT),(1,1,a),(2,1,b),(3,1,c),(4,1,d),(5,1,kN),(6,1,k),(7,1,kL)] λkP=>aB 429 kP kO λkQ kR=>b9 1 2 f a λkS=>aD 1 kS kQ kR λqG kT=>e (.tuple #[]) kT))/\(bH F λaW aX=>(ah P 84 [s] aX λkU kV=>bH kV λkW kX=>aV [.pointer none,I 0,I 0,.nilFunc,.nilFunc,.map none,.map none,.map none] [(0,1,kU),(1,1,a),(2,1,b),(3,1,c),(4,1,d),(5,1,aW),(6,1,k),(7,1,kW)] λkY=>aB 429 kY kX λkZ k3=>b9 1 2 f a λk4=>aD 1 k4 kZ k3 λqH k5=>e (.tuple #[]) k5)/\(bH aX λk6 k7=>ah P 84 [s] k7 λk8 k9=>aV [.pointer none,I 0,I 0,.nilFunc,.nilFunc,.map none,.map none,.map none] [(0,1,k8),(1,1,a),(2,1,b),(3,1,c),(4,1,d),(5,1,aW),(6,1,k),(7,1,k6)] λld=>aB 429 ld k9 λlg lp=>b9 1 2 f a λlq=>aD 1 lq lg lp λqI lu=>e (.tuple #[]) lu))/\(bH F λaY aZ=>(ah P 84 [s] aZ λlz lB=>bH lB λlC lD=>aV [.pointer none,I 0,I 0,.nilFunc,.nilFunc,.map none,.map none,.map none] [(0,1,lz),(1,1,a),(2,1,b),(3,1,c),(4,1,d),(5,1,lC),(6,1,k),(7,1,aY)] λlE=>aB 429 lE lD λlF lG=>b9 1 2 f a λlH=>aD 1 lH lF lG λqJ lI=>e (.tuple #[]) lI)/\(bH aZ λlJ lK=>ah P 84 [s] lK λlM lN=>aV [.pointer none,I 0,I 0,.nilFunc,.nilFunc,.map none,.map none,.map none] [(0,1,lM),(1,1,a),(2,1,b),(3,1,c),(4,1,d),(5,1,lJ),(6,1,k),(7,1,aY)] λlP=>aB 429 lP lN λlQ lR=>b9 1 2 f a λlS=>aD 1 lS lQ lR λqK lT=>e (.tuple #[]) lT)))/\(bH E λG bf=>(ah P 36 [g] bf λbg bh=>(ah P 84 [bg] bh λlU lV=>bH lV λlW lX=>aV [.pointer none,I 0,I 0,.nilFunc,.nilFunc,.map none,.map none,.map none] [(0,1,lU),(1,1,a),(2,1,b),(3,1,c),(4,1,d),(5,1,G),(6,1,k),(7,1,lW)] λlY=>aB 429 lY lX λlZ l5=>b9 1 2 f a λl6=>aD 1 l6 lZ l5 λqL l7=>e (.tuple #[]) l7)/\(bH bh λl8 l9=>ah P 84 [bg] l9 λmb mc=>aV [.pointer none,I 0,I 0,.nilFunc,.nilFunc,.map none,.map none,.map none] [(0,1,mb),(1,1,a),(2,1,b),(3,1,c),(4,1,d),(5,1,G),(6,1,k),(7,1,l8)] λme=>aB 429 me mc λmg mh=>b9 1 2 f a λmj=>aD 1 mj mg mh λqM mm=>e (.tuple #[]) mm))/\(bH bf λmo mq=>ah P 36 [g] mq λmu mw=>ah P 84 [mu] mw λmz mA=>aV [.pointer none,I 0,I 0,.nilFunc,.nilFunc,.map none,.map none,.map none] [(0,1,mz),(1,1,a),(2,1,b),(3,1,c),(4,1,d),(5,1,G),(6,1,k),(7,1,mo)] λmB=>aB 429 mB mA λmC mD=>b9 1 2 f a λmE=>aD 1 mE mC mD λqN mF=>e (.tuple #[]) mF))/\(bH E λH bk=>(ah P 36 [g] bk λbl bn=>(ah P 84 [bl] bn λmG mH=>bH mH λmI mJ=>aV [.pointer none,I 0,I 0,.nilFunc,.nilFunc,.map none,.map none,.map none] [(0,1,mG),(1,1,a),(2,1,b),(3,1,c),(4,1,d),(5,1,mI),(6,1,k),(7,1,H)] λmK=>aB 429 mK mJ λmL mM=>b9 1 2 f a λmN=>aD 1 mN mL mM λqO mO=>e (.tuple #[]) mO)/\(bH bn λmP mQ=>ah P 84 [bl] mQ λmR mS=>aV [.pointer none,I 0,I 0,.nilFunc,.nilFunc,.map none,.map none,.map none] [(0,1,mR),(1,1,a),(2,1,b),(3,1,c),(4,1,d),(5,1,mP),(6,1,k),(7,1,H)] λmT=>aB 429 mT mS λmU mV=>b9 1 2 f a λmW=>aD 1 mW mU mV λqP mX=>e (.tuple #[]) mX))/\(bH bk λmY mZ=>ah P 36 [g] mZ λnc ng=>ah P 84 [nc] ng λnh ni=>aV [.pointer none,I 0,I 0,.nilFunc,.nilFunc,.map none,.map none,.map none] [(0,1,nh),(1,1,a),(2,1,b),(3,1,c),(4,1,d),(5,1,mY),(6,1,k),(7,1,H)] λnj=>aB 429 nj ni λnk nq=>b9 1 2 f a λnr=>aD 1 nr nk nq λqQ nt=>e (.tuple #[]) nt)))/\(bH q λl J=>(ah P 36 [g] J λt L=>(ah P 84 [t] L λbp bq=>(bH bq λnu nv=>bH nv λnw nx=>aV [.pointer none,I 0,I 0,.nilFunc,.nilFunc,.map none,.map none,.map none] [(0,1,bp),(1,1,a),(2,1,b),(3,1,c),(4,1,d),(5,1,nu),(6,1,nw),(7,1,l)] λny=>aB 429 ny nx λnA nB=>b9 1 2 f a λnC=>aD 1 nC nA nB λqR nD=>e (.tuple #[]) nD)/\(bH bq λnE nF=>bH nF λnG nH=>aV [.pointer none,I 0,I 0,.nilFunc,.nilFunc,.map none,.map none,.map none] [(0,1,bp),(1,1,a),(2,1,b),(3,1,c),(4,1,d),(5,1,nG),(6,1,nE),(7,1,l)] λnI=>aB 429 nI nH λnJ nK=>b9 1 2 f a λnL=>aD 1 nL nJ nK λqS nM=>e (.tuple #[]) nM))/\(bH L λbr bt=>(ah P 84 [t] bt λnN nO=>bH nO λnP nQ=>aV [.pointer none,I 0,I 0,.nilFunc,.nilFunc,.map none,.map none,.map none] [(0,1,nN),(1,1,a),(2,1,b),(3,1,c),(4,1,d),(5,1,br),(6,1,nP),(7,1,l)] λnR=>aB 429 nR nQ λnS nT=>b9 1 2 f a λnU=>aD 1 nU nS nT λqT nV=>e (.tuple #[]) nV)/\(bH bt λnW nX=>ah P 84 [t] nX λnY nZ=>aV [.pointer none,I 0,I 0,.nilFunc,.nilFunc,.map none,.map none,.map none] [(0,1,nY),(1,1,a),(2,1,b),(3,1,c),(4,1,d),(5,1,br),(6,1,nW),(7,1,l)] λn4=>aB 429 n4 nZ λn5 n7=>b9 1 2 f a λn8=>aD 1 n8 n5 n7 λqU n9=>e (.tuple #[]) n9))/\(bH L λbu bw=>(ah P 84 [t] bw λoa ob=>bH ob λoc od=>aV [.pointer none,I 0,I 0,.nilFunc,.nilFunc,.map none,.map none,.map none] [(0,1,oa),(1,1,a),(2,1,b),(3,1,c),(4,1,d),(5,1,oc),(6,1,bu),(7,1,l)] λoe=>aB 429 oe od λog oh=>b9 1 2 f a λom=>aD 1 om og oh λqV oo=>e (.tuple #[]) oo)/\(bH bw λoq ot=>ah P 84 [t] ot λou ov=>aV [.pointer none,I 0,I 0,.nilFunc,.nilFunc,.map none,.map none,.map none] [(0,1,ou),(1,1,a),(2,1,b),(3,1,c),(4,1,d),(5,1,oq),(6,1,bu),(7,1,l)] λow=>aB 429 ow ov λox oy=>b9 1 2 f a λoz=>aD 1 oz ox oy λqW oA=>e (.tuple #[]) oA)))/\(bH J λM bx=>(ah P 36 [g] bx λbz bA=>(ah P 84 [bz] bA λoB oC=>bH oC λoD oE=>aV [.pointer none,I 0,I 0,.nilFunc,.nilFunc,.map none,.map none,.map none] [(0,1,oB),(1,1,a),(2,1,b),(3,1,c),(4,1,d),(5,1,M),(6,1,oD),(7,1,l)] λoF=>aB 429 oF oE λoG oH=>b9 1 2 f a λoI=>aD 1 oI oG oH λqX oJ=>e (.tuple #[]) oJ)/\(bH bA λoK oL=>ah P 84 [bz] oL λoM oN=>aV [.pointer none,I 0,I 0,.nilFunc,.nilFunc,.map none,.map none,.map none] [(0,1,oM),(1,1,a),(2,1,b),(3,1,c),(4,1,d),(5,1,M),(6,1,oK),(7,1,l)] λoO=>aB 429 oO oN λoP oQ=>b9 1 2 f a λoR=>aD 1 oR oP oQ λqY oS=>e (.tuple #[]) oS))/\(bH bx λoT oU=>ah P 36 [g] oU λoV oW=>ah P 84 [oV] oW λoZ o3=>aV [.pointer none,I 0,I 0,.nilFunc,.nilFunc,.map none,.map none,.map none] [(0,1,oZ),(1,1,a),(2,1,b),(3,1,c),(4,1,d),(5,1,M),(6,1,oT),(7,1,l)] λo4=>aB 429 o4 o3 λo5 o6=>b9 1 2 f a λo7=>aD 1 o7 o5 o6 λqZ o8=>e (.tuple #[]) o8))/\(bH J λN bB=>(ah P 36 [g] bB λbC bD=>(ah P 84 [bC] bD λo9 pe=>bH pe λpg pn=>aV [.pointer none,I 0,I 0,.nilFunc,.nilFunc,.map none,.map none,.map none] [(0,1,o9),(1,1,a),(2,1,b),(3,1,c),(4,1,d),(5,1,pg),(6,1,N),(7,1,l)] λpq=>aB 429 pq pn λpz pE=>b9 1 2 f a λpF=>aD 1 pF pz pE λq3 pG=>e (.tuple #[]) pG)/\(bH bD λpH pI=>ah P 84 [bC] pI λpJ pK=>aV [.pointer none,I 0,I 0,.nilFunc,.nilFunc,.map none,.map none,.map none] [(0,1,pJ),(1,1,a),(2,1,b),(3,1,c),(4,1,d),(5,1,pH),(6,1,N),(7,1,l)] λpL=>aB 429 pL pK λpM pN=>b9 1 2 f a λpO=>aD 1 pO pM pN λq4 pP=>e (.tuple #[]) pP))/\(bH bB λpQ pR=>ah P 36 [g] pR λpS pT=>ah P 84 [pS] pT λpU pV=>aV [.pointer none,I 0,I 0,.nilFunc,.nilFunc,.map none,.map none,.map none] [(0,1,pU),(1,1,a),(2,1,b),(3,1,c),(4,1,d),(5,1,pQ),(6,1,N),(7,1,l)] λpW=>aB 429 pW pV λpX pY=>b9 1 2 f a λpZ=>aD 1 pZ pX pY λq5 p0=>e (.tuple #[]) p0)))
def Rr(H:GY prog q r s t u v h K):aF prog 201 #[q,r,s,t,u,v] h K:=aG H func201
def Rt(P:Program)(a0:Value)(h:af)(K:KT):Prop:=aB 59 a0 h λb a=>au 1 b λc=>ag a c λd=>K d a
def af7(H:Rt prog q h K):aF prog 202 #[q] h K:=aG H func202
def Ru(P:Program)(a0:Value)(h:af)(K:KT):Prop:=aB 59 a0 h λb a=>au 0 b λc=>ag a c λd=>K d a
def af8(H:Ru prog q h K):aF prog 203 #[q] h K:=aG H func203
def xC(P:Program)(f s0 b c:Value)(K:KT)(a:af):Prop:=aI f λg=>au 1 g λi=>ag a i λj=>aq .sub (I 1) j λk=>aI s0 λl=>au 5 l λm=>b9 1 2 m k λn=>ag a n λo=>aI o λp=>au 5 p λq=>ag a q λr=>dP (.int .i64) (I 0) true a r b λd=>bp d 0 λe=>bp d 1 λs=>aA s (aq .add c e λt=>aI s0 λu=>au 7 u λv=>au 0 v λw=>ag a w λx=>aq .lss t x λy=>aA y (aq .add c e λz=>aI s0 λA=>au 7 A λB=>au 0 B λC=>aD 1 C z a λH D=>aI s0 λE=>au 10 E λF=>aD 1 F b D λJ G=>K (.tuple #[]) G) (K (.tuple #[]) a)) (K (.tuple #[]) a)
def xD:=aI a λm=>au 5 m λn=>ag y n λj=>aI a λo=>au 6 o λp=>ag y p λk=>mI (.int .i64) (I 0) j b y λq r=>bp q 1 λs=>lP j s c r λu t=>mI (.int .i64) (I 0) k b t λv w=>bp v 1 λx=>lP k x d w λO i=>aq .mul (I 2) c λz=>aI a λA=>au 2 A λB=>ag i B λC=>aq .mul C e λD=>aq .add z D λl=>aA f (aI a λE=>au 0 E λF=>ag i F λG=>ah P 182 [G,b,l] i λQ H=>xC P a g b c Z H) (aI a λJ=>au 0 J λL=>ag i L λM=>ah P 87 [M,b,l] i λR N=>xC P a g b c Z N)
def GZ:=ah P 308 [a,c] y λi f=>bp i 0 λj=>bp i 1 λl=>aI b λm=>au 5 m λn=>ag f n λo=>dP (.int .i64) (I 0) true f o c λk=>bp k 0 λp=>bp k 1 λg=>bY .not l λq=>aA q (z (.tuple #[]) f) (aI b λr=>au 7 r λs=>ag f s λt=>dP (.int .i64) (I 0) false f t c λu=>aq .gtr u (I 0) λv=>aA v (z (.tuple #[]) f) (aA g (aq .leq p e λw=>aA w (z (.tuple #[]) f) (xD P b c e d j g a z f)) (xD P b c e d j g a z f)))
def Rv(H:GZ prog q r s t u h K):aF prog 204 #[q,r,s,t,u] h K:=aG H func204
def CT(P:Program)(K:KT)(a:af):Prop:=K (.pointer none) a
def Rw:=aI a λi=>au 5 i λj=>b9 1 2 j (I 0) λk=>ag y k λl=>aI l λm=>au 0 m λn=>ag y n λo=>ah P 309 [o] y λd c=>bp d 0 λe=>bp d 1 λp=>aI a λq=>au 5 q λr=>b9 1 2 r (I 1) λs=>ag c s λt=>aI t λu=>au 0 u λv=>ag c v λw=>ah P 309 [w] c λf b=>bp f 0 λg=>bp f 1 λx=>bY .not p λA=>aA A (CT P z b) (bY .not x λB=>aA B (CT P z b) (aq .add e g λC=>aI a λD=>au 7 D λE=>au 0 E λF=>ag b F λG=>aq .mul (I 2) G λH=>aq .geq C H λJ=>aA J (CT P z b) (aq .leq e g λL=>aA L (aI a λM=>au 5 M λN=>b9 1 2 N (I 0) λO=>ag b O λQ=>z Q b) (aI a λR=>au 5 R λS=>b9 1 2 S (I 1) λT=>ag b T λU=>z U b))))
def af9(H:Rw prog q h K):aF prog 205 #[q] h K:=aG H func205
def xE(P:Program)(a:Value)(Z:KT)(b:af):Prop:=aq .add a (I 1) λc=>Z c b
def xF:=aI a λq=>au 7 q λr=>au 2 r λs=>ag y s λt=>aI b λu=>au 1 u λv=>ag y v λw=>aV [I 0,I 0,I 0,I 0] [(0,1,I 1),(1,1,w),(2,1,c)] λx=>uX 100 (bO [I 0,I 0,I 0,I 0] 1) [(0,4,x)] 1 y λz A=>uY 100 4 32 [I 0,I 0,I 0,I 0] t z A λB C=>aI a λD=>au 7 D λE=>au 2 E λF=>aD 1 F B C λaf k=>aI a λG=>au 0 G λH=>ag k H λJ=>ah P 180 [J,c] k λl L=>bp l 0 λM=>bp l 1 λai=>aB 59 (.agg #[I 0,I 0,I 0]) L λi N=>aD 3 i M N λaj f=>aI b λO=>au 4 O λQ=>ag f Q λR=>bq 3 f i λS=>aI b λT=>au 5 T λm=>ag f m λj=>dP (.int .i64) (I 0) false f j d λn=>au 2 i λo=>ag f o λp=>aq .add n p λU=>aX P R [S].toArray f λV g=>(ag g m λW=>W=j)/\(dP (.int .i64) (I 0) false g j d λX=>X=n)/\(ag g o λY=>Y=p)/\(ah P 204 [a,b,V,c,U] g λak aa=>xE P e Z aa)
def G0:=aq .lss k a λg=>aA g (aY 1 b k λi=>ag y i λf=>aI c λj=>au 1 j λl=>au 2 l λm=>ag y m λn=>bB n λo=>aq .gtr o (I 0) λp=>aA p (aI c λq=>au 1 q λr=>au 2 r λs=>ag y s λt=>aY 1 t f λu=>ag y u λv=>bY .not v λw=>aA w (xE P k z y) (xF P c d f e k z y)) (xF P c d f e k z y)) (Z (.tuple #[]) y)
def G1:=aI b λk=>au 0 k λl=>ag y l λm=>ah P 88 [m] y λe f=>bp e 0 λc=>bp e 1 λX=>bp e 2 λY=>aI b λn=>au 7 n λo=>ag f o λg=>dP (.int .i64) (I 0) false f g c λp=>aq .add p (I 1) λq=>e9 (.int .i64) g c q f λu d=>aI a λr=>au 7 r λs=>au 2 s λt=>ag d t λv=>aI b λw=>au 1 w λA=>ag d A λB=>aI b λC=>au 5 C λD=>ag d D λE=>dP (.int .i64) (I 0) false d E c λF=>aV [I 0,I 0,I 0,I 0] [(0,1,I 0),(1,1,B),(2,1,c),(3,1,F)] λG=>uX 100 (bO [I 0,I 0,I 0,I 0] 1) [(0,4,G)] 1 d λH J=>uY 100 4 32 [I 0,I 0,I 0,I 0] v H J λL M=>aI a λN=>au 7 N λO=>au 2 O λQ=>aD 1 Q L M λZ i=>aI b λR=>au 3 R λS=>ag i S λT=>aX P T [c].toArray i λj U=>bB j λV=>bI (σ:=bt [57]) (λx hh W=>G0 P V j a b c z x.1 hh (λa0 hz=>W (a0,()) hz)) (I 0,()) U
def Ry(H:G1 prog q r h K):aF prog 206 #[q,r] h K:=aG H func206 [(4,[57])]
def G2:=aB 314 a y λs2 d=>aB 315 b d λe c=>ag c s2 λf=>aI f λg=>au 10 g λi=>ag c i λj=>ah P 310 [j,(.func (.func 311) #[] #[e,s2])] c λk l=>z k l
def Rz(H:G2 prog q r h K):aF prog 207 #[q,r] h K:=aG H func207
def RA(P:Program)(s0:Value)(K:KT)(a b:Value)(c:af)(Z:Value->KT):Prop:=aq .lss a b λd=>aA d (aY 1 s0 b λe=>ag c e λf=>aY 1 s0 a λg=>ag c g λi=>aY 1 s0 a λj=>aD 1 j f c λu k=>aY 1 s0 b λl=>aD 1 l i k λp m=>aq .add a (I 1) λn=>aq .sub b (I 1) λo=>Z n o m) (K (.tuple #[]) c)
def RB:=bB a λb=>aq .sub b (I 1) λc=>bI (σ:=bt [2,3]) (λx hh d=>RA P a z x.1 x.2.1 hh (λa0 e hz=>d (a0,(e,())) hz)) (I 0,(c,())) y
def aga(H:RB prog q h K):aF prog 208 #[q] h K:=aG H func208 [(1,[2,3])]
def RC:=aB 47 a y λn3 j=>aB 48 b j λk l=>aB 56 c l λe d=>aV [.nilFunc,I 0] [(0,1,(.func (.func 315) #[] #[n3])),(1,1,I 1)] λm=>au 1 e λn=>ag d n λo=>au 2 e λf=>ag d f λg=>aV [.nilFunc,I 0] [(0,1,(.func (.func 316) #[] #[k,n3])),(1,1,I 19)] λp=>aX P (.func (.func 312) #[] #[n3]) [o].toArray d λq i=>(ag i f λr=>r=g)/\(aV [.nilFunc,I 0] [(0,1,q),(1,1,I 17)] λs=>aX P (.func (.func 312) #[] #[n3]) [g].toArray i λt u=>aV [.nilFunc,I 0] [(0,1,t),(1,1,I 18)] λv=>uX 436 (bO [.nilFunc,I 0] 4) [(0,2,m),(2,2,s),(4,2,v),(6,2,p)] 4 u λw x=>ah P 314 [w] x λA B=>z A B)
def agb(H:RC prog q r s h K):aF prog 209 #[q,r,s] h K:=aG H func209
def RD(f:Value->KT):=aq .lss l a λg=>aA g (uX 3 (bO [I 0] 1) [(0,1,l)] 1 y λi j=>uY 3 1 8 [I 0] k i j λm n=>aq .add l (I 1) λo=>f m o n) (jR b (I 1) λp=>ah P 317 [k,p,(.func (.func 318) #[] #[c,d,e])] y λq r=>Z q r)
def RE:=aB 48 a y λe g=>aB 3 b g λi j=>aB 3 c j λk f=>ag f e λl=>ah P 102 [l] f λm n=>bB m λo=>bI (σ:=bt [9,14]) (λx hh p=>RD P o d e i k z x.1 x.2.1 hh (λa0 q hz=>p (a0,(q,())) hz)) (aE,(I 0,())) n
def agc(H:RE prog q r s t h K):aF prog 210 #[q,r,s,t] h K:=aG H func210 [(4,[9,14])]
def RF(P:Program)(c:af)(a:Value)(L:Loop)(d:Value)(e:af)(R:Exit->af->Prop):Prop:=iZ (c.size+1) L e λb=>ag b a λf=>uX 2 (bO [I 0] 1) [(0,1,d)] 1 b λg i=>uY 2 1 8 [I 0] f g i λj k=>aD 1 a j k λm l=>R .normal l
def RG:=aB 48 a y λf o=>aB 43 b o λp q=>aB 3 c q λj r=>aB 29 aE r λd g=>ag g f λs=>ag g j λt=>ah P 320 [s,t] g λv i=>bY .not v λw=>aA w (aD 1 d aE i λu k=>ag k d λres=>z res k) (ag i f λA=>ah P 321 [A,(.func (.func 322) #[] #[f,p,j])] i λB e=>gO P B [15] (e.size+1) (e.push (.deferred (some []))) (λL x hh R=>RF P e d L x.1 hh R) (λl=>ag l d λC=>aD 1 d C l λH D=>de (e.size:: []) D λm=>ag m d λE=>z E m) (λF=>de (e.size:: []) F λn=>ag n d λG=>z G n) [])
def agd(H:RG prog q r s h K):aF prog 211 #[q,r,s] h K:=aG H func211
def RH:=aq .lss k (I 4) λb=>aA b (uA 4 a k λc=>aX P c [].toArray y λf d=>aq .add k (I 1) λe=>z e d) (Z (.tuple #[]) y)
def RI:=aB 47 a y λn3 f=>aB 48 b f λg i=>aB 56 c i λe j=>aB 105 .nilFunc j λd k=>aD 1 d (.func (.func 324) #[] #[n3]) k λu l=>aV [.nilFunc,.nilFunc,.nilFunc,.nilFunc] [(0,1,(.func (.func 325) #[] #[n3])),(1,1,(.func (.func 326) #[] #[d,e])),(2,1,(.func (.func 327) #[] #[d,e])),(3,1,(.func (.func 328) #[] #[g,n3]))] λm=>bI (σ:=bt [15]) (λx hh n=>RH P m z x.1 hh (λa0 hz=>n (a0,()) hz)) (I 0,()) l
def age(H:RI prog q r s h K):aF prog 213 #[q,r,s] h K:=aG H func213 [(3,[15])]
def RJ:=aB 303 a y λf g=>aB 303 (.agg #[I 0,aE,aE]) g λc i=>aq .eql b (I 0) λj=>ah P 216 [j,b] i λl d=>bq 3 d f λk=>aD 3 c k d λu e=>bq 3 e c λres=>z res e
def agf(H:RJ prog q r h K):aF prog 214 #[q,r] h K:=aG H func214
def RK(P:Program)(K:KT)(a:af):Prop:=K aE a
def RM:=aB 48 a y λe l=>aB 43 b l λm n=>aB 3 c n λj o=>aB 3 d o λk g=>ag g e λp=>ag g j λq=>ah P 320 [p,q] g λr f=>bY .not r λs=>aA s (RK P z f) (ag f e λt=>ag f k λu=>ah P 320 [t,u] f λv i=>bY .not v λw=>aA w (RK P z i) (ag i e λx=>ah P 321 [x,(.func (.func 330) #[] #[e,m,k,j])] i λA B=>ah P 329 [A] B λC D=>z C D))
def agh(H:RM prog q r s t h K):aF prog 215 #[q,r,s,t] h K:=aG H func215
def RN(P:Program)(a b:Value)(h:af)(K:KT):Prop:=bY .not a λc=>aA c (aV [I 0] [(0,1,b)] λd=>False) (K (.tuple #[]) h)
def agi(H:RN prog q r h K):aF prog 216 #[q,r] h K:=aG H func216
def RO:=au 0 a λb=>ag y b λc=>ah P 218 [I 5,c,I 1,I 16777217] y λd e=>z d e
def agj(H:RO prog q h K):aF prog 217 #[q] h K:=aG H func217
def RP:=aV [I 0,I 0,I 0,I 0,I 0,I 0] [(0,1,I 0),(1,1,I 0),(2,1,a),(3,1,b),(4,1,c),(5,1,d)] λe=>uX 341 (bO [I 0,I 0,I 0,I 0,I 0,I 0] 1) [(0,6,e)] 1 y λf g=>ah P 332 [f] g λi j=>z i j
def agk(H:RP prog q r s t h K):aF prog 218 #[q,r,s,t] h K:=aG H func218
def RQ:=bq 4 y a λb=>ah P 220 [b] y λc d=>z c d
def agl(H:RQ prog q h K):aF prog 219 #[q] h K:=aG H func219
def RR:=aB 32 a y λr1 b=>au 0 r1 λd=>ag b d λc=>au 1 r1 λe=>ag b e λf=>bB f λg=>aq .add c (I 1) λi=>aV [I 0,I 0,I 0,I 0,I 0,I 0] [(0,1,I 0),(1,1,I 0),(2,1,I 6),(3,1,g),(4,1,c),(5,1,i)] λj=>au 2 r1 λk=>ag b k λl=>bB l λm=>aq .add c (I 1) λn=>aV [I 0,I 0,I 0,I 0,I 0,I 0] [(0,1,I 0),(1,1,I 1),(2,1,I 6),(3,1,m),(4,1,c),(5,1,n)] λo=>uX 341 (bO [I 0,I 0,I 0,I 0,I 0,I 0] 2) [(0,6,j),(6,6,o)] 2 b λp q=>ah P 332 [p] q λr s=>z r s
def agm(H:RR prog q h K):aF prog 220 #[q] h K:=aG H func220
def RS:=bq 4 y a λb=>ah P 222 [b] y λc d=>z c d
def agn(H:RS prog q h K):aF prog 221 #[q] h K:=aG H func221
def RT(P:Program)(a:Value)(h:af)(K:KT):Prop:=aB 32 a h λr1 b=>K (.func (.func 333) #[] #[r1]) b
def ago(H:RT prog q h K):aF prog 222 #[q] h K:=aG H func222
def RU:=au 3 a λb=>ag y b λc=>bB c λd=>ah P 218 [I 8,d,I 0,I 67108865] y λe f=>z e f
def agp(H:RU prog q h K):aF prog 223 #[q] h K:=aG H func223
def RV:=bq 4 y a λb=>ah P 225 [b] y λc d=>z c d
def agq(H:RV prog q h K):aF prog 224 #[q] h K:=aG H func224
def RX(P:Program)(a:Value)(h:af)(K:KT):Prop:=aB 32 a h λr1 b=>K (.func (.func 334) #[] #[r1]) b
def agr(H:RX prog q h K):aF prog 225 #[q] h K:=aG H func225
def CU:=aq .lss k a λe=>aA e (aY 1 b k λf=>ag y f λg=>aX P c [g].toArray y λi d=>aA i (Z k d) (aq .add k (I 1) λj=>z j d)) (Z (I (-1)) y)
def CV:=bB a λc=>bI (σ:=bt [8]) (λx hh d=>CU P c a b z x.1 hh (λa0 hz=>d (a0,()) hz)) (I 0,()) y
def G3(H:CV prog q r h K):aF prog 230 #[q,r] h K:=aG H func230 [(3,[8])]
def CW(f:Value->KT)(g:Value)(e:af):=ag e a λi=>ag e b λj=>ag e c λk=>ah P 237 [i,j,k] e λn l=>aq .add d (I 1) λm=>f g m l
def RY(e:Value->KT):=bB l λj=>aq .gtr j (I 0) λn=>aA n (ah P 233 [l,(.func (.func 234) #[] #[a])] y λo p=>aB 3 (I 0) p λc q=>aD 1 c o q λA f=>ag f c λr=>aX P b [r].toArray f λs g=>bY .not s λt=>aA t (Z (.tuple #[]) g) (ah P 235 [l,(.func (.func 236) #[] #[c])] g λi d=>aq .eql m (I 0) λu=>aA u (ag d k λv=>ah P 232 [v,aE] d λw x=>aD 1 a w x λB z=>CW P k a c m e i z) (CW P k a c m e i d))) (Z (.tuple #[]) y)
def RZ:=aq .lss k a λg=>aA g (aY 1 b k λi=>aD 1 i k y λu j=>aq .add k (I 1) λl=>z l j) (ag y c λm=>ag y d λn=>uX 3 (bO [I 0] 1) [(0,1,n)] 1 y λo p=>ah P 232 [m,o] p λq r=>aB 29 aE r λf s=>aD 1 f q s λA t=>bI (σ:=bt [4,7]) (λx hh v=>RY P f e Z c x.1 x.2.1 hh (λa0 w hz=>v (a0,(w,())) hz)) (b,(I 0,())) t)
def R3:=ag y b λf=>ah P 36 [f] y λd g=>dG 3 8 [I 0] d d g λe i=>bB e λj=>bI (σ:=bt [14]) (λx hh k=>RZ P j e b c a z x.1 hh (λa0 hz=>k (a0,()) hz)) (I 0,()) i
def ags(H:R3 prog q r s h K):aF prog 231 #[q,r,s] h K:=aG H func231 [(3,[14]),(10,[4,7])]
def R6:=aq .lss k a λe=>aA e (aY 1 b k λf=>ag y f λg=>ah P 237 [c,d,g] y λl i=>aq .add k (I 1) λj=>z j i) (Z d y)
def R7:=uX 2 (bO [I 0] 1) [(0,1,I 72057594037927936)] 1 y λc d=>ah P 36 [a] d λe f=>ah P 85 [c,e] f λg i=>bB b λj=>bI (σ:=bt [14]) (λx hh k=>R6 P j b a g z x.1 hh (λa0 hz=>k (a0,()) hz)) (I 0,()) i
def agt(H:R7 prog q r h K):aF prog 232 #[q,r] h K:=aG H func232 [(4,[14])]
def CX(P:Program)(a:Value)(Z:Value->KT)(b:Value)(c:af):Prop:=aq .add a (I 1) λd=>Z b d c
def G4(b:Value->KT)(c:Value)(d:af):=CX P a b c d
def R8(d:Value->KT):=aq .lss l a λg=>aA g (aY 1 b l λi=>ag y i λe=>aq .eql l (I 0) λj=>aA j (G4 P l d e y) (aX P c [e,k].toArray y λm f=>aA m (G4 P l d e f) (CX P l d k f))) (Z k y)
def R9:=bB a λc=>bI (σ:=bt [4,9]) (λx hh d=>R8 P c a b z x.1 x.2.1 hh (λa0 e hz=>d (a0,(e,())) hz)) (I 0,(I 0,())) y
def agu(H:R9 prog q r h K):aF prog 233 #[q,r] h K:=aG H func233 [(3,[4,9])]
def Sa(P:Program)(a0 b a:Value)(h:af)(K:KT):Prop:=ag h a λc=>aY 1 c a0 λd=>ag h d λe=>ag h a λf=>aY 1 f b λg=>ag h g λi=>aq .gtr e i λj=>K j h
def agv(H:Sa prog q r s h K):aF prog 234 #[q,r,s] h K:=aG H func234
def CY(P:Program)(a:Value)(Z:Value->KT)(b:Value)(c:af):Prop:=aq .add a (I 1) λd=>Z b d c
def Sb(c:Value->KT):=bB a λf=>aq .lss l f λg=>aA g (aY 1 a l λi=>ag y i λd=>aX P b [d].toArray y λj e=>bY .not j λm=>aA m (aY 1 a k λn=>aD 1 n d e λu o=>aq .add k (I 1) λp=>CY P l c p o) (CY P l c k e)) (eW 1 a (some k) none none λq=>wL [I 0] q y λt r=>eW 1 a none (some k) none λs=>Z s r)
def Sc:=ah P 230 [a,b] y λc d=>aq .eql c (I (-1)) λe=>aA e (z a d) (aq .add c (I 1) λf=>bI (σ:=bt [5,6]) (λx hh g=>Sb P a b z x.1 x.2.1 hh (λa0 i hz=>g (a0,(i,())) hz)) (c,(f,())) d)
def agw(H:Sc prog q r h K):aF prog 235 #[q,r] h K:=aG H func235 [(7,[5,6])]
def Sd(P:Program)(a b:Value)(h:af)(K:KT):Prop:=ag h b λc=>aq .eql a c λd=>K d h
def agx(H:Sd prog q r h K):aF prog 236 #[q,r] h K:=aG H func236
def Se(P:Program)(d e c:Value)(K:KT)(a:Value)(b:af)(Z:KT):Prop:=aq .lss a d λf=>aA f (aY 1 e a λg=>ag b g λi=>aY 1 c a λj=>ag b j λk=>lN k i λl=>aY 1 c a λm=>aD 1 m l b λu n=>aq .add a (I 1) λo=>Z o n) (K (.tuple #[]) b)
def Sf:=ah P 9 [a,c] y λe f=>oD 0 e λd=>bB d λg=>bI (σ:=bt [13]) (λx hh i=>Se P g d b z x.1 hh (λa0 hz=>i (a0,()) hz)) (I 0,()) f
def agy(H:Sf prog q r s h K):aF prog 237 #[q,r,s] h K:=aG H func237 [(1,[13])]
def Sg(P:Program)(a:Value)(h:af)(K:KT):Prop:=bL false .ptr a (.pointer none) λb=>aA b (K (I 0) h) (aI a λc=>au 0 c λd=>ag h d λe=>bB e λf=>K f h)
def agz(H:Sg prog q h K):aF prog 238 #[q] h K:=aG H func238
def Sh(P:Program)(l0:Value)(h:af)(K:KT):Prop:=aY 1 l0 (I 0) λa=>ag h a λb=>bB l0 λc=>bB l0 λd=>eW 1 l0 (some (I 1)) (some c) (some d) λe=>K (.tuple #[b,e]) h
def agA(H:Sh prog q h K):aF prog 239 #[q] h K:=aG H func239
def Si(P:Program)(c k:Value)(R:Exit->af->Prop)(d l:Value)(a:af):Prop:=aA l (ag a c λe=>aI e λm=>au 3 m λf=>ag a f λg=>au 0 d λi=>ag a i λj=>ag a c λn=>aI n λo=>au 3 o λp=>ag a p λq=>au 0 d λr=>ag a r λs=>dP (.int .i64) aE false a q s λt=>uX 3 (bO [I 0] 1) [(0,1,k)] 1 a λu v=>uY 3 1 8 [I 0] t u v λw b=>(ag b c λx=>x=e)/\(ag b f λy=>y=g)/\(ag b i λz=>z=j)/\(e9 (.int .i64) g j w b λB A=>R .normal A)) (R .normal a)
def CZ(m:Exit->af->Prop)(d:af):=akV (σ:=bt [15,16]) (λe=>ag d a λf=>ag d b λn=>aI n λo=>au 0 o λp=>au 1 p λq=>ag d q λr=>aY 1 r c λs=>ag d s λg=>(ah P 180 [f,g] d λi t=>bp i 0 λu=>bp i 1 λv=>aB 59 (.agg #[I 0,I 0,I 0]) t λj w=>aD 3 j u w λE y=>e (j,(v,())) y)/\(aB 59 (.agg #[I 0,I 0,I 0]) d λk z=>ah P 180 [f,g] z λl A=>bp l 0 λB=>bp l 1 λC=>aD 3 k B A λF D=>e (k,(C,())) D)) (λx hh=>Si P b c m x.1 x.2.1 hh)
def Sj(k:Exit->af->Prop)(l j:Value)(g:af)(o:Value->KT):=aq .lss j a λp=>aA p (aY 1 b j λq=>ag g q λm=>ag g c λr=>aI r λs=>au 4 s λt=>ag g t λu=>aY 1 u m λv=>ag g v λw=>ah P 340 [l,w] g λx i=>ag i d λn=>aY 1 n e λy=>ag i y λz=>ag i d λA=>aY 1 A m λB=>ag i B λC=>aq .add z C λD=>aY 1 n e λE=>aD 1 E D i λU F=>aq .add j (I 1) λG=>o x G F) (ag g d λH=>aY 1 H e λJ=>ag g J λL=>aq .eql L (I 0) λM=>aA M (ag g c λN=>aI N λO=>au 4 O λQ=>ag g Q λR=>aY 1 R e λS=>aD 1 S l g λV T=>CZ P f c e k T) (CZ P f c e k g))
def C0(g:Exit->af->Prop)(i:Value)(e:af):=ag e a λj=>aI j λk=>au 3 k λl=>ag e l λm=>dP (.int .i64) aE false e m b λf=>bB f λn=>bI (σ:=bt [12,73]) (λx hh o=>Sj P n f a c b d g x.1 x.2.1 hh (λa0 p hz=>o (a0,(p,())) hz)) (i,(I 0,())) e
def G5(e c o f g:Value)(p:Loop)(b:Value)(q:af)(i:Exit->af->Prop):=iZ (y.size+1) p q λa=>ag a e λr=>aq .neq b r λs=>aA s (ag a c λj=>aI j λt=>au 0 t λu=>au 0 u λk=>ag a k λl=>aY 1 l b λm=>ag a m λn=>ag a o λv=>ag a e λw=>ah P 339 [v,w,b] a λx d=>(ag d c λz=>z=j)/\(ag d k λA=>A=l)/\(ag d m λB=>B=n)/\(aq .sub n x λC=>C0 P c b f g i C d)) (C0 P c b f g i (I 0) a)
def Sk:=aq .lss k a λp=>aA p (aY 7 b k λq=>bq 7 y q λr=>aB 372 (.agg #[I 0,aE,aE,aE,aE,aE,aE]) y λl s=>aD 7 l r s λS j=>ag j c λm=>au 0 l λt=>ag j t λn=>aY 1 m n λu=>ag j u λv=>aq .add v (I 1) λw=>aY 1 m n λA=>aD 1 A w j λT B=>aq .add k (I 1) λC=>z C B) (ag y d λD=>aI D λE=>au 0 E λF=>au 2 F λG=>ag y G λH=>ah P 338 [H] y λJ i=>gO P J [49] (i.size+1) (i.push (.deferred (some []))) (λL x hh R=>G5 P i e d f c g L x.1 hh R) (λo=>ag o d λM=>de (i.size:: []) o λN=>Z M N) (λO=>de (i.size:: []) O λQ=>Z (.pointer none) Q) [])
def G6:=ag y a λi=>ah P 36 [i] y λd j=>dG 3 8 [I 0] d d j λl m=>aB 43 aE m λe n=>aD 1 e l n λq f=>ag f b λg=>bB g λo=>bI (σ:=bt [31]) (λx hh p=>Sk P o g e k c b a Z x.1 hh (λa0 hz=>p (a0,()) hz)) (I 0,()) f
def Sl:=aB 47 a y λn3 aQ=>aB 219 b aQ λaR aS=>aB 3 c aS λr5 i=>akV (σ:=bt [7]) (λJ=>ag i n3 λk=>ag i r5 λl=>ag i n3 λd=>(ah P 9 [k,l] i λe m=>(ag m n3 λaT=>aT=d)/\((bH m λt D=>(ah P 36 [d] D λn E=>(dG 2 8 [I 0] n n E λaU F=>aV [aE,aE,aE,.map none,aE] [(0,3,e),(3,1,t),(4,1,aU)] λG=>(aB 368 G F λaW aX=>aB 362 (.pointer none) aX λH aY=>aD 1 H aW aY λu aZ=>J (H,()) aZ)/\(aB 362 (.pointer none) F λL bf=>aB 368 G bf λbg bh=>aD 1 L bg bh λfe bk=>J (L,()) bk))/\(aB 362 (.pointer none) E λM bl=>dG 2 8 [I 0] n n bl λbn bp=>aV [aE,aE,aE,.map none,aE] [(0,3,e),(3,1,t),(4,1,bn)] λbq=>aB 368 bq bp λbr bu=>aD 1 M br bu λff bw=>J (M,()) bw))/\(aB 362 (.pointer none) D λN bx=>ah P 36 [d] bx λO bz=>dG 2 8 [I 0] O O bz λbA bB=>aV [aE,aE,aE,.map none,aE] [(0,3,e),(3,1,t),(4,1,bA)] λbC=>aB 368 bC bB λbD bE=>aD 1 N bD bE λfh bF=>J (N,()) bF))/\(ah P 36 [d] m λf v=>(bH v λQ R=>(dG 2 8 [I 0] f f R λbG S=>aV [aE,aE,aE,.map none,aE] [(0,3,e),(3,1,Q),(4,1,bG)] λT=>(aB 368 T S λbI bJ=>aB 362 (.pointer none) bJ λU bK=>aD 1 U bI bK λfk bL=>J (U,()) bL)/\(aB 362 (.pointer none) S λV bM=>aB 368 T bM λbN bO=>aD 1 V bN bO λfm bP=>J (V,()) bP))/\(aB 362 (.pointer none) R λW bQ=>dG 2 8 [I 0] f f bQ λbR bS=>aV [aE,aE,aE,.map none,aE] [(0,3,e),(3,1,Q),(4,1,bR)] λbT=>aB 368 bT bS λbU bV=>aD 1 W bU bV λfo bW=>J (W,()) bW))/\(dG 2 8 [I 0] f f v λX Y=>(bH Y λbX Z=>aV [aE,aE,aE,.map none,aE] [(0,3,e),(3,1,bX),(4,1,X)] λaa=>(aB 368 aa Z λbY bZ=>aB 362 (.pointer none) bZ λaf b5=>aD 1 af bY b5 λfq b6=>J (af,()) b6)/\(aB 362 (.pointer none) Z λai b7=>aB 368 aa b7 λb8 b9=>aD 1 ai b8 b9 λfu cc=>J (ai,()) cc))/\(aB 362 (.pointer none) Y λaj cg=>bH cg λcj ck=>aV [aE,aE,aE,.map none,aE] [(0,3,e),(3,1,cj),(4,1,X)] λcm=>aB 368 cm ck λcn cq=>aD 1 aj cn cq λfz cr=>J (aj,()) cr))/\(aB 362 (.pointer none) v λo ak=>(bH ak λct cu=>dG 2 8 [I 0] f f cu λcv cw=>aV [aE,aE,aE,.map none,aE] [(0,3,e),(3,1,ct),(4,1,cv)] λcz=>aB 368 cz cw λcA cB=>aD 1 o cA cB λfA cC=>J (o,()) cC)/\(dG 2 8 [I 0] f f ak λcD cE=>bH cE λcF cG=>aV [aE,aE,aE,.map none,aE] [(0,3,e),(3,1,cF),(4,1,cD)] λcH=>aB 368 cH cG λcI cJ=>aD 1 o cI cJ λfB cK=>J (o,()) cK)))/\(aB 362 (.pointer none) m λj an=>(bH an λcL cM=>ah P 36 [d] cM λaq cN=>dG 2 8 [I 0] aq aq cN λcO cP=>aV [aE,aE,aE,.map none,aE] [(0,3,e),(3,1,cL),(4,1,cO)] λcQ=>aB 368 cQ cP λcR cS=>aD 1 j cR cS λfC cT=>J (j,()) cT)/\(ah P 36 [d] an λp au=>(bH au λcU cV=>dG 2 8 [I 0] p p cV λcW cZ=>aV [aE,aE,aE,.map none,aE] [(0,3,e),(3,1,cU),(4,1,cW)] λc4=>aB 368 c4 cZ λc5 c6=>aD 1 j c5 c6 λfD c7=>J (j,()) c7)/\(dG 2 8 [I 0] p p au λc8 c9=>bH c9 λdc de=>aV [aE,aE,aE,.map none,aE] [(0,3,e),(3,1,dc),(4,1,c8)] λdg=>aB 368 dg de λdh di=>aD 1 j dh di λfE dm=>J (j,()) dm)))))/\(bH i λq av=>(ah P 9 [k,l] av λw A=>(ag A n3 λdn=>dn=d)/\((ah P 36 [d] A λr ax=>(dG 2 8 [I 0] r r ax λdr ay=>aV [aE,aE,aE,.map none,aE] [(0,3,w),(3,1,q),(4,1,dr)] λaz=>(aB 368 az ay λdw dx=>aB 362 (.pointer none) dx λaA dy=>aD 1 aA dw dy λfF dz=>J (aA,()) dz)/\(aB 362 (.pointer none) ay λaC dA=>aB 368 az dA λdB dD=>aD 1 aC dB dD λfG dF=>J (aC,()) dF))/\(aB 362 (.pointer none) ax λaF dH=>dG 2 8 [I 0] r r dH λdI dJ=>aV [aE,aE,aE,.map none,aE] [(0,3,w),(3,1,q),(4,1,dI)] λdK=>aB 368 dK dJ λdL dM=>aD 1 aF dL dM λfH dN=>J (aF,()) dN))/\(aB 362 (.pointer none) A λaG dO=>ah P 36 [d] dO λaH dP=>dG 2 8 [I 0] aH aH dP λdQ dR=>aV [aE,aE,aE,.map none,aE] [(0,3,w),(3,1,q),(4,1,dQ)] λdS=>aB 368 dS dR λdU dV=>aD 1 aG dU dV λfI dW=>J (aG,()) dW)))/\(aB 362 (.pointer none) av λaI dX=>ah P 9 [k,l] dX λdY aJ=>(ag aJ n3 λdZ=>dZ=d)/\(ah P 36 [d] aJ λaK ec=>dG 2 8 [I 0] aK aK ec λee ef=>aV [aE,aE,aE,.map none,aE] [(0,3,dY),(3,1,q),(4,1,ee)] λei=>aB 368 ei ef λej ek=>aD 1 aI ej ek λfJ en=>J (aI,()) en)))/\(aB 362 (.pointer none) i λg aL=>(ah P 9 [k,l] aL λB C=>(ag C n3 λeo=>eo=d)/\((bH C λep er=>ah P 36 [d] er λaM eu=>dG 2 8 [I 0] aM aM eu λew ey=>aV [aE,aE,aE,.map none,aE] [(0,3,B),(3,1,ep),(4,1,ew)] λez=>aB 368 ez ey λeA eB=>aD 1 g eA eB λfK eC=>J (g,()) eC)/\(ah P 36 [d] C λs aN=>(bH aN λeD eE=>dG 2 8 [I 0] s s eE λeF eG=>aV [aE,aE,aE,.map none,aE] [(0,3,B),(3,1,eD),(4,1,eF)] λeH=>aB 368 eH eG λeL eM=>aD 1 g eL eM λfL eN=>J (g,()) eN)/\(dG 2 8 [I 0] s s aN λeO eP=>bH eP λeR eS=>aV [aE,aE,aE,.map none,aE] [(0,3,B),(3,1,eR),(4,1,eO)] λeT=>aB 368 eT eS λeU eV=>aD 1 g eU eV λfM eW=>J (g,()) eW))))/\(bH aL λeX eY=>ah P 9 [k,l] eY λeZ aO=>(ag aO n3 λe3=>e3=d)/\(ah P 36 [d] aO λaP e4=>dG 2 8 [I 0] aP aP e4 λe5 e6=>aV [aE,aE,aE,.map none,aE] [(0,3,eZ),(3,1,eX),(4,1,e5)] λe7=>aB 368 e7 e6 λe8 e9=>aD 1 g e8 e9 λfN fc=>J (g,()) fc)))) (λx hh=>G6 P n3 aR r5 z x.1 hh)
def agB(H:Sl prog q r s h K):aF prog 240 #[q,r,s] h K:=aG H func240 [(1,[7]),(5,[31]),(17,[12,73]),(25,[15,16])]
def z7(P:Program)(a b:Value)(R:Exit->af->Prop)(c:af):Prop:=aD 1 a b c λe d=>R .normal d
def Sn(g a:Value)(k:Loop)(d:Value)(l:af)(b:Exit->af->Prop):=iZ (y.size+1) k l λj=>ag j g λm=>aX P m [d].toArray j λi c=>aq .gtr i (I 0) λn=>aA n (ag c a λo=>aq .lss o (I 0) λp=>aA p (z7 P a d b c) (ag c g λq=>ag c a λr=>aX P q [r].toArray c λs e=>aq .gtr i s λt=>aA t (z7 P a d b e) (ag e g λu=>ag e a λv=>aX P u [v].toArray e λw f=>aq .eql i w λx=>aA x (ag f a λz=>aq .lss d z λA=>aA A (z7 P a d b f) (b .normal f)) (b .normal f)))) (b .normal c)
def aqW:=aB 369 b y λf g=>aB 3 (I 0) g λd i=>aD 1 d (I (-1)) i λu c=>gO P a [9] (c.size+1) (c.push (.deferred (some []))) (λL x hh R=>Sn P c f d L x.1 hh R) (λe=>ag e d λj=>de (c.size:: []) e λk=>z j k) (λl=>de (c.size:: []) l λm=>z (I 0) m) []
def agC(H:aqW prog q r h K):aF prog 241 #[q,r] h K:=aG H func241
def Sp(P:Program)(s0:Value)(h:af)(K:KT):Prop:=aB 43 s0 h λa b=>K (.func (.func 341) #[] #[a]) b
def agD(H:Sp prog q h K):aF prog 242 #[q] h K:=aG H func242
def Sq(P:Program)(a b:Value)(h:af)(K:KT):Prop:=aI a λc=>au 4 c λd=>ag h d λe=>aY 1 e b λf=>ag h f λg=>K g h
def agE(H:Sq prog q r h K):aF prog 243 #[q,r] h K:=aG H func243
def Sr:=ah P 342 [a,b] y λc d=>aq .geq c (I 0) λe=>z e d
def agF(H:Sr prog q r h K):aF prog 244 #[q,r] h K:=aG H func244
def Ss(P:Program)(b c:Value)(h:af)(K:KT):Prop:=aB 372 b h λd a=>au 0 d λe=>ag a e λf=>ag a c λg=>aq .eql f g λi=>K i a
def agG(H:Ss prog q r h K):aF prog 245 #[q,r] h K:=aG H func245
def St:=bL true .ptr a (.pointer none) λc=>aA c (aq .geq b (I 0) λd=>aA d (ah P 36 [a] y λe f=>aq .lss b e λg=>z g f) (z (.bool false) y)) (z (.bool false) y)
def agH(H:St prog q r h K):aF prog 246 #[q,r] h K:=aG H func246
def Su:=aq .lss k a λf=>aA f (ag y b λg=>ah P 248 [g,k] y λd i=>bp d 0 λj=>bp d 1 λl=>bp d 2 λp=>aX P c [j,l].toArray i λm e=>bY .not m λn=>aA n (Z (.tuple #[]) e) (aq .add k (I 1) λo=>z o e)) (Z (.tuple #[]) y)
def Sv:=ag y b λc=>ah P 36 [c] y λd e=>bI (σ:=bt [9]) (λx hh f=>Su P d b a z x.1 hh (λa0 hz=>f (a0,()) hz)) (I 0,()) e
def agI(H:Sv prog q r h K):aF prog 247 #[q,r] h K:=aG H func247 [(1,[9])]
def Sw:=bL false .ptr a (.pointer none) λf=>aA f (z (.tuple #[I 0,I 0,.bool false]) y) (aI a λg=>au 0 g λi=>au 1 i λj=>ag y j λk=>ah P 343 [k,b] y λc d=>bp c 0 λl=>bp c 1 λt=>aI a λm=>au 0 m λn=>au 2 n λo=>ag d o λp=>ah P 343 [p,b] d λe q=>bp e 0 λr=>bp e 1 λs=>z (.tuple #[l,r,s]) q)
def agJ(H:Sw prog q r h K):aF prog 248 #[q,r] h K:=aG H func248
def Sx(P:Program)(a b c d:Value)(h:af)(K:KT):Prop:=au 0 b λe=>ag h e λf=>aq .sub a f λg=>ag h c λi=>aq .mul g i λj=>ag h d λk=>aq .quo j k λl=>K l h
def agK(H:Sx prog q r s t h K):aF prog 249 #[q,r,s,t] h K:=aG H func249
def Sy(P:Program)(b:Value)(h:af)(K:KT):Prop:=ag h b λa=>aI a λc=>au 2 c λd=>ag h d λe=>aq .add e (I 1) λf=>aI a λg=>au 2 g λi=>aD 1 i f h λu j=>K (.tuple #[]) j
def agL(a:Value){h:af}{K:af->Prop}(H:Sy prog a h (λ_ h'=>K h')):js prog 250 [a].toArray h K:=
 aeT (eH:=(eX (Tryz.f250.body.getD .skip) 0 []).1) (c:=Tryz.f250.body.getD .skip) func250 bn bn bn iC
  (Eq.mpr bn H)
def G7(P:Program)(a:Value)(Z:Value->Value->KT)(b c:Value)(d:af):Prop:=aq .add a (I 1) λe=>Z b c e d
def Sz(c:Value->Value->KT):=aq .lss m (I 4) λf=>aA f (ah P 252 [a,m] y λg i=>ah P 345 [b,g] i λd e=>aq .gtr d l λj=>aA j (G7 P m c m d e) (G7 P m c k l e)) (Z (.tuple #[k,l]) y)
def SA:=ah P 344 [] y λg c=>bI (σ:=bt [4,5,9]) (λx hh d=>Sz P a b z x.1 x.2.1 x.2.2.1 hh (λa0 e f hz=>d (a0,(e,(f,()))) hz)) (I 0,(I 0,(I 0,()))) c
def agM(H:SA prog q r h K):aF prog 251 #[q,r] h K:=aG H func251 [(3,[4,5,9])]
def SB:=aB 233 a y λp2 d=>ah P 344 [] d λe f=>uA 4 e b λg=>aB 446 .nilFunc f λc i=>aD 1 c g i λu j=>z (.func (.func 346) #[] #[p2,c]) j
def agN(H:SB prog q r h K):aF prog 252 #[q,r] h K:=aG H func252
def SC:=ah P 29 [a] y λc d=>ah P 347 [c,b] d λf e=>z c e
def agO(H:SC prog q r h K):aF prog 253 #[q,r] h K:=aG H func253
def SD:=ag y c λf=>ag y c λd=>aX P f [a].toArray y λg e=>(ag e c λi=>i=d)/\(aX P d [b].toArray e λj k=>ah P 256 [g,j] k λl m=>ah P 257 [a,b] m λn o=>uX 3 (bO [I 0] 2) [(0,1,l),(1,1,n)] 2 o λp q=>ah P 255 [p] q λr s=>z r s)
def agP(H:SD prog q r s h K):aF prog 254 #[q,r,s] h K:=aG H func254
def G8(P:Program)(d e:Value)(K:KT)(b:Value)(a:af)(Z:KT):Prop:=aq .lss b d λf=>aA f (aY 1 e b λg=>ag a g λc=>aq .neq c (I 0) λi=>aA i (K c a) (aq .add b (I 1) λj=>Z j a)) (K (I 0) a)
def G9:=bB a λb=>bI (σ:=bt [8]) (λx hh c=>G8 P b a z x.1 hh (λa0 hz=>c (a0,()) hz)) (I 0,()) y
def SE(H:G9 prog q h K):aF prog 255 #[q] h K:=aG H func255 [(4,[8])]
def SF:=ah P 348 [a] y λe f=>ah P 348 [b] f λd c=>aA e (aA d (z (I 0) c) (z (I (-1)) c)) (aA d (z (I 1) c) (aq .lss a b λg=>aA g (z (I (-1)) c) (aq .gtr a b λi=>aA i (z (I 1) c) (z (I 0) c))))
def SG(H:SF prog q r h K):aF prog 256 #[q,r] h K:=aG H func256
def SH:=ah P 349 [a] y λe f=>ah P 349 [b] f λd c=>aA e (aA d (z (I 0) c) (z (I (-1)) c)) (aA d (z (I 1) c) (aq .lss a b λg=>aA g (z (I (-1)) c) (aq .gtr a b λi=>aA i (z (I 1) c) (z (I 0) c))))
def SJ(H:SH prog q r h K):aF prog 257 #[q,r] h K:=aG H func257
def SK:=ag y b λi=>ah P 180 [i,a] y λf j=>bp f 0 λk=>bp f 1 λx=>aB 59 (.agg #[I 0,I 0,I 0]) j λg l=>aD 3 g k l λu e=>ag e c λm=>aI m λn=>au 0 n λo=>ag e o λp=>au 0 g λq=>ag e q λr=>aY 1 p r λs=>ag e s λt=>ag e d λv=>aq .neq t v λw=>z w e
def agQ(H:SK prog q r s t h K):aF prog 258 #[q,r,s,t] h K:=aG H func258
def SL(P:Program)(a b:Value)(h:af)(K:KT):Prop:=aB 49 a h λc d=>aB 105 b d λe f=>K (.func (.func 350) #[] #[c,e]) f
def agR(H:SL prog q r h K):aF prog 259 #[q,r] h K:=aG H func259
def SM(P:Program)(K:KT)(a:Value)(b:af):Prop:=K a b
def SN:=akV (σ:=bt [6]) (λJ=>ag y b λi=>aI i λj=>au 0 j λk=>ag y k λl=>aY 1 l a λm=>ag y m λn=>ag y c λo=>aq .eql n o λp=>aA p (ag y d λq=>ag y e λf=>ah P 125 [q,a] y λr g=>(ag g e λs=>s=f)/\(ah P 122 [r,f] g λt u=>J (t,()) u)) (J (.bool false,()) y)) (λx hh=>SM P z x.1 hh)
def agS(H:SN prog q r s t u h K):aF prog 260 #[q,r,s,t,u] h K:=aG H func260 [(1,[6])]
def C1(P:Program)(a:Value)(Z:Value->KT)(b:Value)(c:af):Prop:=aq .add a (I 1) λd=>Z b d c
def SO(d:Value->KT):=aq .lss l a λg=>aA g (aY 1 b l λi=>ag y i λe=>ah P 351 [c,e] y λj f=>aA j (bB k λm=>ah P 354 [c,e] f λn o=>ah P 353 [m,n] o λp q=>ah P 352 [k,p,.bool true] q λr s=>C1 P l d r s) (C1 P l d k f)) (Z k y)
def SP:=bL false .ptr a (.pointer none) λd=>aA d (z aE y) (ah P 69 [a] y λc e=>dG 4 1 [.bool false] c c e λf g=>bB b λi=>bI (σ:=bt [5,15]) (λx hh j=>SO P i b a z x.1 x.2.1 hh (λa0 k hz=>j (a0,(k,())) hz)) (f,(I 0,())) g)
def agT(H:SP prog q r h K):aF prog 261 #[q,r] h K:=aG H func261 [(7,[5,15])]
def agU(P:Program)(c w0 many1 e:Value)(Z:KT)(d a:Value)(b:af)(f:Value->KT):Prop:=aq .lss a (I 8) λg=>aA g (cJ .u8 d λi=>b9 1 8 c a λj=>aD 1 j i b λu k=>aq .shr d (.int .u64 8) λl=>aq .add a (I 1) λm=>f l m k) (aI w0 λn=>au 0 n λo=>ag b o λp=>pP 1 8 c none (some many1) none λq=>uY 5 1 1 [.int .u8 0] p q b λr s=>aI w0 λt=>au 0 t λv=>aD 1 v r s λy w=>aq .add e (I 1) λx=>Z x w)
def agV:=aq .lss k a λe=>aA e (aY 1 b k λf=>ag y f λg=>aB 473 (.agg #[.int .u8 0,.int .u8 0,.int .u8 0,.int .u8 0,.int .u8 0,.int .u8 0,.int .u8 0,.int .u8 0]) y λi j=>cJ .u64 g λl=>bI (σ:=bt [9,21]) (λx hh m=>agU P i c d k z x.1 x.2.1 hh (λa0 n hz=>m (a0,(n,())) hz)) (l,(I 0,())) j) (Z (.tuple #[]) y)
def agW:=bL false .ptr a (.pointer none) λd=>aA d (z (.tuple #[]) y) (bB c λe=>bI (σ:=bt [15]) (λx hh f=>agV P e c a b z x.1 hh (λa0 hz=>f (a0,()) hz)) (I 0,()) y)
def agX(H:agW prog q r s h K):aF prog 262 #[q,r,s] h K:=aG H func262 [(3,[15]),(12,[9,21])]
def agY(P:Program)(c w0 many1 e:Value)(Z:KT)(d a:Value)(b:af)(f:Value->KT):Prop:=aq .lss a (I 8) λg=>aA g (cJ .u8 d λi=>b9 1 8 c a λj=>aD 1 j i b λu k=>aq .shr d (.int .u64 8) λl=>aq .add a (I 1) λm=>f l m k) (aI w0 λn=>au 0 n λo=>ag b o λp=>pP 1 8 c none (some many1) none λq=>uY 5 1 1 [.int .u8 0] p q b λr s=>aI w0 λt=>au 0 t λv=>aD 1 v r s λy w=>aq .add e (I 1) λx=>Z x w)
def agZ:=aq .lss k a λe=>aA e (aY 1 b k λf=>ag y f λg=>aB 473 (.agg #[.int .u8 0,.int .u8 0,.int .u8 0,.int .u8 0,.int .u8 0,.int .u8 0,.int .u8 0,.int .u8 0]) y λi j=>bI (σ:=bt [9,20]) (λx hh l=>agY P i c d k z x.1 x.2.1 hh (λa0 m hz=>l (a0,(m,())) hz)) (g,(I 0,())) j) (Z (.tuple #[]) y)
def ag0:=bL false .ptr a (.pointer none) λd=>aA d (z (.tuple #[]) y) (bB c λe=>bI (σ:=bt [15]) (λx hh f=>agZ P e c a b z x.1 hh (λa0 hz=>f (a0,()) hz)) (I 0,()) y)
def ag1(H:ag0 prog q r s h K):aF prog 263 #[q,r,s] h K:=aG H func263 [(3,[15]),(12,[9,20])]
def ag2(P:Program)(c w0 many1 e:Value)(Z:KT)(d a:Value)(b:af)(f:Value->KT):Prop:=aq .lss a (I 8) λg=>aA g (cJ .u8 d λi=>b9 1 8 c a λj=>aD 1 j i b λu k=>aq .shr d (.int .u64 8) λl=>aq .add a (I 1) λm=>f l m k) (aI w0 λn=>au 0 n λo=>ag b o λp=>pP 1 8 c none (some many1) none λq=>uY 5 1 1 [.int .u8 0] p q b λr s=>aI w0 λt=>au 0 t λv=>aD 1 v r s λy w=>aq .add e (I 1) λx=>Z x w)
def ag3:=aq .lss k a λe=>aA e (aY 1 b k λf=>ag y f λg=>aB 473 (.agg #[.int .u8 0,.int .u8 0,.int .u8 0,.int .u8 0,.int .u8 0,.int .u8 0,.int .u8 0,.int .u8 0]) y λi j=>cJ .u64 g λl=>bI (σ:=bt [9,21]) (λx hh m=>ag2 P i c d k z x.1 x.2.1 hh (λa0 n hz=>m (a0,(n,())) hz)) (l,(I 0,())) j) (Z (.tuple #[]) y)
def ag4:=bL false .ptr a (.pointer none) λd=>aA d (z (.tuple #[]) y) (bB c λe=>bI (σ:=bt [15]) (λx hh f=>ag3 P e c a b z x.1 hh (λa0 hz=>f (a0,()) hz)) (I 0,()) y)
def ag5(H:ag4 prog q r s h K):aF prog 264 #[q,r,s] h K:=aG H func264 [(3,[15]),(12,[9,21])]
def SQ:=bY .xor a λc=>ah P 355 [c] y λd e=>aX P d [b].toArray e λf g=>bY .xor f λi=>z i g
def ag6(H:SQ prog q r h K):aF prog 265 #[q,r] h K:=aG H func265
def SR:=aB 32 (.agg #[I 0,aE,aE,aE]) y λb c=>bL false .ptr a (.pointer none) λf=>aA f (aV [I 0,aE,aE,aE] [] λg=>aD 4 b g c λu d=>bq 4 d b λres=>z res d) (aI a λi=>au 0 i λj=>bq 4 c j λk=>ah P 51 [k] c λl m=>aD 4 b l m λo e=>bq 4 e b λn=>z n e)
def ag7(H:SR prog q h K):aF prog 266 #[q] h K:=aG H func266
def SU:=ah P 356 [a,I 8,b] y λd c=>z (.tuple #[]) c
def ag8(H:SU prog q r h K):aF prog 267 #[q,r] h K:=aG H func267
def SV:=bL false .ptr a (.pointer none) λe=>aA e (z (.tuple #[aE,aE]) y) (aI a λf=>au 2 f λg=>ag y g λi=>aI a λj=>au 3 j λb=>ag y b λc=>ah P 284 [i] y λk d=>(ag d b λl=>l=c)/\(ah P 284 [c] d λm n=>z (.tuple #[k,m]) n))
def ag9(H:SV prog q h K):aF prog 268 #[q] h K:=aG H func268
def aqX(P:Program)(a:Value)(h:af)(K:KT):Prop:=aB 259 a h λr1 b=>K (.func (.func 357) #[] #[r1]) b
def aha(H:aqX prog q h K):aF prog 269 #[q] h K:=aG H func269
def SX(P:Program)(a:Value)(h:af)(K:KT):Prop:=bL false .ptr a (.pointer none) λb=>aA b (K (I 0) h) (aI a λc=>au 1 c λd=>ag h d λe=>K e h)
def ahb(H:SX prog q h K):aF prog 270 #[q] h K:=aG H func270
def SY:=ah P 359 [a,I 4] y λb c=>z b c
def ahc(H:SY prog q h K):aF prog 271 #[q] h K:=aG H func271
def SZ(P:Program)(a c:Value)(h:af)(K:KT):Prop:=bY .not a λb=>aA b (False) (K (.tuple #[]) h)
def ahd(H:SZ prog q r h K):aF prog 272 #[q,r] h K:=aG H func272
def S3(P:Program)(K:KT)(a:af):Prop:=K .nilIface a
def S4:=bL false .ptr a (.pointer none) λc=>aA c (S3 P z y) (aI a λd=>au 2 d λe=>ag y e λf=>bL false .ptr f (.pointer none) λg=>aA g (S3 P z y) (aI a λi=>au 2 i λj=>ag y j λk=>aI k λl=>bq 4 y l λm=>aB 120 (.agg #[I 0,I 0,I 0,I 0]) y λb n=>aD 4 b m n λu o=>z (.iface 122 b) o))
def ahe(H:S4 prog q h K):aF prog 273 #[q] h K:=aG H func273
def S5(P:Program)(a:Value)(h:af)(K:KT):Prop:=bL false .ptr a (.pointer none) λb=>aA b (K (I 0) h) (aI a λc=>au 0 c λd=>ag h d λe=>fQ e λf=>aI a λg=>au 1 g λi=>ag h i λj=>aq .sub f j λk=>K k h)
def ahf(H:S5 prog q h K):aF prog 274 #[q] h K:=aG H func274
def S6:=ah P 360 [a,b] y λc d=>z c d
def ahg(H:S6 prog q r h K):aF prog 275 #[q,r] h K:=aG H func275
def S7:=ag y a λb=>ah P 271 [b] y λc d=>cJ .i64 c λe=>z e d
def ahh(H:S7 prog q h K):aF prog 276 #[q] h K:=aG H func276
def ahi(P:Program)(d e:Value)(K:KT)(b a:Value)(c:af)(Z:Value->KT):Prop:=aq .lss a d λf=>aA f (mT e a λg=>cJ .u64 g λi=>aq .mul (I 8) a λj=>aq .shl i j λk=>aq .or b k λl=>aq .add a (I 1) λm=>Z l m c) (cJ .i64 b λn=>K n c)
def ahj:=ah P 360 [a,b] y λc d=>fQ c λe=>bI (σ:=bt [6,13]) (λx hh f=>ahi P e c z x.1 x.2.1 hh (λa0 g hz=>f (a0,(g,())) hz)) (.int .u64 0,(I 0,())) d
def ahk(H:ahj prog q r h K):aF prog 277 #[q,r] h K:=aG H func277 [(5,[6,13])]
def ahl(P:Program)(d e:Value)(K:KT)(b a:Value)(c:af)(Z:Value->KT):Prop:=aq .lss a d λf=>aA f (mT e a λg=>cJ .u64 g λi=>aq .mul (I 8) a λj=>aq .shl i j λk=>aq .or b k λl=>aq .add a (I 1) λm=>Z l m c) (cJ .u8 b λn=>K n c)
def ahm:=ah P 360 [a,b] y λc d=>fQ c λe=>bI (σ:=bt [6,13]) (λx hh f=>ahl P e c z x.1 x.2.1 hh (λa0 g hz=>f (a0,(g,())) hz)) (.int .u64 0,(I 0,())) d
def ahn(H:ahm prog q r h K):aF prog 278 #[q,r] h K:=aG H func278 [(5,[6,13])]
def S8:=bB a λc=>ag y b λd=>aq .neq c d λe=>aA e (z (.bool true) y) (ah P 280 [a,(.func (.func 281) #[] #[])] y λf g=>z f g)
def aho(H:S8 prog q r h K):aF prog 279 #[q,r] h K:=aG H func279
def S9:=ah P 361 [a,b] y λc d=>aq .geq c (I 0) λe=>z e d
def ahp(H:S9 prog q r h K):aF prog 280 #[q,r] h K:=aG H func280
def Ta(P:Program)(a:Value)(h:af)(K:KT):Prop:=aq .lss a (I 0) λb=>aA b (K (.bool true) h) (aq .gtr a (I 72057594037927936) λc=>K c h)
def ahq(H:Ta prog q h K):aF prog 281 #[q] h K:=aG H func281
def Tb:=bB a λd=>ag y b λe=>bB e λf=>aq .neq d f λg=>aA g (z (.bool true) y) (ag y c λi=>ah P 283 [a,i] y λj k=>z j k)
def ahr(H:Tb prog q r s h K):aF prog 282 #[q,r,s] h K:=aG H func282
def Tc:=ah P 362 [a,b] y λc d=>aq .geq c (I 0) λe=>z e d
def ahs(H:Tc prog q r h K):aF prog 283 #[q,r] h K:=aG H func283
def Td(c:Value->KT):=aq .lss l a λd=>aA d (aY 1 b l λe=>ag y e λf=>ah P 119 [f] y λg i=>uX 29 (bO [aE] 1) [(0,1,g)] 1 i λj m=>uY 29 1 24 [aE] k j m λn o=>aq .add l (I 1) λp=>c n p o) (Z k y)
def Te:=bB a λb=>bI (σ:=bt [2,7]) (λx hh c=>Td P b a z x.1 x.2.1 hh (λa0 d hz=>c (a0,(d,())) hz)) (aE,(I 0,())) y
def aht(H:Te prog q h K):aF prog 284 #[q] h K:=aG H func284 [(3,[2,7])]
def z8(P:Program)(K:KT)(a:af):Prop:=K (I 72057594037927936) a
def Tf:=bL false .ptr a (.pointer none) λf=>aA f (z8 P z y) (aq .lss c (I 0) λg=>aA g (z8 P z y) (aI a λi=>au 1 i λj=>ag y j λk=>bB k λl=>aq .geq c l λm=>aA m (z8 P z y) (aq .lss d (I 0) λn=>aA n (z8 P z y) (aI a λo=>au 0 o λp=>ag y p λq=>aq .geq d q λr=>aA r (z8 P z y) (aX P b [].toArray y λs e=>aY 1 s c λt=>ag e t λu=>aY 1 u d λv=>ag e v λw=>z w e)))))
def ahu(H:Tf prog q r s t h K):aF prog 285 #[q,r,s,t] h K:=aG H func285
def Tg(P:Program)(a:Value)(h:af)(K:KT):Prop:=aI a λb=>au 2 b λc=>ag h c λd=>K d h
def ahv(H:Tg prog q h K):aF prog 286 #[q] h K:=aG H func286
def Ti(P:Program)(a:Value)(h:af)(K:KT):Prop:=aI a λb=>au 3 b λc=>ag h c λd=>K d h
def ahw(H:Ti prog q h K):aF prog 287 #[q] h K:=aG H func287
def Tj(P:Program)(a b:Value)(h:af)(K:KT):Prop:=aq .and a (.int .u64 4294967295) λc=>aq .shr a (.int .u64 32) λd=>aq .and b (.int .u64 4294967295) λe=>aq .shr b (.int .u64 32) λf=>aq .mul c e λi=>aq .mul d e λj=>aq .shr i (.int .u64 32) λk=>aq .add j k λg=>aq .and g (.int .u64 4294967295) λl=>aq .shr g (.int .u64 32) λm=>aq .mul c f λn=>aq .add l n λo=>aq .mul d f λp=>aq .add p m λq=>aq .shr o (.int .u64 32) λr=>aq .add q r λs=>aq .mul a b λt=>K (.tuple #[s,t]) h
def ahx(H:Tj prog q r h K):aF prog 289 #[q,r] h K:=aG H func289
def Tk:=aI a λn=>au 0 n λo=>ag y o λp=>aY 2 p b λq=>au 1 q λr=>ag y r λs=>aI a λt=>au 0 t λu=>ag y u λv=>aY 2 v c λw=>au 1 w λx=>ag y x λA=>aI a λB=>au 0 B λe=>ag y e λf=>aY 2 f b λC=>au 0 C λg=>ag y g λi=>aI a λD=>au 0 D λj=>ag y j λk=>aY 2 k c λE=>au 0 E λl=>ag y l λm=>ah P 256 [s,A] y λF d=>(ag d e λG=>G=f)/\(ag d g λH=>H=i)/\(ag d j λJ=>J=k)/\(ag d l λL=>L=m)/\(ah P 257 [i,m] d λM N=>uX 3 (bO [I 0] 2) [(0,1,F),(1,1,M)] 2 N λO Q=>ah P 255 [O] Q λR S=>aq .lss R (I 0) λT=>z T S)
def ahy(H:Tk prog q r s h K):aF prog 290 #[q,r,s] h K:=aG H func290
def Tl(P:Program)(a b:Value)(h:af)(K:KT):Prop:=aB 420 a h λr2 c=>aB 3 b c λd e=>K (.func (.func 363) #[] #[d,r2]) e
def ahz(H:Tl prog q r h K):aF prog 291 #[q,r] h K:=aG H func291
def He(P:Program)(a:Value)(K:KT)(b:af):Prop:=bq 3 b a λd=>aD 3 a d b λu c=>bq 3 c a λres=>K (.tuple #[res,.bool false]) c
def Tn:=aB 59 (.agg #[I 0,I 0,I 0]) y λc d=>aq .lss b (I 0) λf=>aA f (He P c z d) (bB a λg=>aq .geq b g λi=>aA i (He P c z d) (aY 3 a b λj=>bq 3 d j λk=>aD 3 c k d λm e=>bq 3 e c λl=>z (.tuple #[l,.bool true]) e))
def ahA(H:Tn prog q r h K):aF prog 292 #[q,r] h K:=aG H func292
def To:=aX P a [I 1,(.func (.func 294) #[] #[b])].toArray y λg d=>aA g (aX P a [I 16,(.func (.func 295) #[] #[b])].toArray d λi e=>aA i (aX P a [I 17,(.func (.func 296) #[] #[b])].toArray e λj f=>aA j (aX P a [I 18,(.func (.func 298) #[] #[b])].toArray f λk c=>aA k (ag c b λl=>aX P a [I 19,(.func (.func 299) #[l] #[])].toArray c λn m=>z (.tuple #[]) m) (z (.tuple #[]) c)) (z (.tuple #[]) f)) (z (.tuple #[]) e)) (z (.tuple #[]) d)
def ahB(H:To prog q r h K):aF prog 293 #[q,r] h K:=aG H func293
def Tp(P:Program)(a:Value)(h:af)(K:KT):Prop:=ag h a λb=>aI b λc=>au 2 c λd=>ag h d λe=>bL true .ptr e (.pointer none) λf=>K f h
def ahC(H:Tp prog q h K):aF prog 294 #[q] h K:=aG H func294
def Tq(P:Program)(a:Value)(h:af)(K:KT):Prop:=ag h a λb=>aI b λc=>au 4 c λd=>au 0 d λe=>ag h e λf=>aq .eql f (I 4) λg=>aA g (K (.bool true) h) (ag h a λi=>aI i λj=>au 4 j λk=>au 0 k λl=>ag h l λm=>aq .eql m (I 5) λn=>K n h)
def ahD(H:Tq prog q h K):aF prog 295 #[q] h K:=aG H func295
def Ts:=ag y a λb=>ag y a λc=>aI c λd=>au 4 d λe=>au 1 e λf=>ag y f λg=>ah P 297 [b,g] y λi j=>z i j
def ahE(H:Ts prog q h K):aF prog 296 #[q] h K:=aG H func296
def Tt:=aq .geq b (I 0) λc=>aA c (aI a λd=>au 2 d λe=>ag y e λf=>ah P 36 [f] y λg i=>aq .lss b g λj=>z j i) (z (.bool false) y)
def ahF(H:Tt prog q r h K):aF prog 297 #[q,r] h K:=aG H func297
def Tu:=ag y a λb=>ag y a λc=>aI c λd=>au 4 d λe=>au 2 e λf=>ag y f λg=>ah P 297 [b,g] y λi j=>z i j
def ahG(H:Tu prog q h K):aF prog 298 #[q] h K:=aG H func298
def ahH(P:Program)(K:KT)(a:Value)(b:af):Prop:=K a b
def Tv:=akV (σ:=bt [2]) (λJ=>aI a λc=>au 2 c λd=>ag y d λe=>aI a λf=>au 0 f λg=>au 0 g λi=>ag y i λj=>aI a λk=>au 0 k λl=>au 1 l λm=>ag y m λn=>ah P 103 [e,j,n] y λo b=>aA o (aI a λp=>au 4 p λq=>au 0 q λr=>ag b r λs=>aq .neq s (I 5) λt=>aA t (J (.bool true,()) b) (ah P 364 [a] b λu v=>J (u,()) v)) (J (.bool false,()) b)) (λx hh=>ahH P z x.1 hh)
def ahI(H:Tv prog q h K):aF prog 299 #[q] h K:=aG H func299 [(1,[2])]
def Tw(P:Program)(c:af)(a:Value)(L:Loop)(d:Value)(e:af)(R:Exit->af->Prop):Prop:=iZ (c.size+1) L e λb=>ag b a λf=>uX 3 (bO [I 0] 1) [(0,1,d)] 1 b λg i=>uY 3 1 8 [I 0] f g i λj k=>aD 1 a j k λu l=>R .normal l
def Tx:=aB 43 aE y λc i=>ah P 365 [a,b] i λj d=>gO P j [9] (d.size+1) (d.push (.deferred (some []))) (λL x hh R=>Tw P d c L x.1 hh R) (λe=>ag e c λk=>aD 1 c k e λo l=>de (d.size:: []) l λf=>ag f c λres=>z res f) (λm=>de (d.size:: []) m λg=>ag g c λn=>z n g) []
def ahJ(H:Tx prog q r h K):aF prog 300 #[q,r] h K:=aG H func300
def Ty(P:Program)(a0 a:Value)(h:af)(K:KT):Prop:=au 2 a λb=>ag h b λc=>bB c λd=>aq .eql d (I 0) λe=>aA e (K (.bool true) h) (au 2 a λf=>ag h f λg=>aY 1 g a0 λi=>ag h i λj=>K j h)
def ahK(H:Ty prog q r h K):aF prog 301 #[q,r] h K:=aG H func301
def Tz(P:Program)(b a:Value)(h:af)(K:KT):Prop:=au 3 a λc=>ag h c λd=>bB d λe=>aq .eql e (I 0) λf=>aA f (K (I 0) h) (au 3 a λg=>ag h g λi=>aY 1 i b λj=>ag h j λk=>jR (I (-72057594037927936)) k λl=>K l h)
def ahL(H:Tz prog q r h K):aF prog 302 #[q,r] h K:=aG H func302
def C2(P:Program)(s0 b c d:Value)(K:KT)(a:af):Prop:=aI s0 λe=>au 2 e λf=>ag a f λg=>aI s0 λi=>au 3 i λj=>ag a j λk=>aY 1 g b λl=>aD 1 l c a λu m=>aY 1 k b λn=>aD 1 n d m λp o=>K (.tuple #[]) o
def C3:=aA a (aI b λg=>au 1 g λi=>ag y i λj=>aq .add c d λk=>ah P 182 [j,e,k] y λr l=>C2 P b e c f Z l) (aI b λm=>au 1 m λn=>ag y n λo=>aq .add c d λp=>ah P 87 [o,e,p] y λs q=>C2 P b e c f Z q)
def TA:=aI a λk=>au 6 k λl=>ag y l λm=>aX P m [b].toArray y λf i=>aI a λn=>au 1 n λo=>ag i o λp=>ah P 181 [p,b] i λj e=>bp j 0 λE=>bp j 1 λg=>aI a λq=>au 4 q λr=>ag e r λs=>aY 1 s b λt=>ag e t λu=>aA u (z (.tuple #[]) e) (aq .geq f (I 72057594037927936) λv=>aA v (z (.tuple #[]) e) (aA g (aI a λw=>au 2 w λx=>ag e x λA=>aY 1 A b λB=>ag e B λC=>aq .geq c C λD=>aA D (z (.tuple #[]) e) (C3 P g a c f b d z e)) (C3 P g a c f b d z e)))
def ahM(H:TA prog q r s t h K):aF prog 303 #[q,r,s,t] h K:=aG H func303
def TC(P:Program)(s0 a:Value)(h:af)(K:KT):Prop:=aB 310 s0 h λs2 b=>aB 3 a b λv3 c=>K (.func (.func 366) #[] #[s2,v3]) c
def ahN(H:TC prog q r h K):aF prog 304 #[q,r] h K:=aG H func304
def C4(P:Program)(a:Value)(Z:KT)(b:af):Prop:=aq .add a (I 1) λc=>Z c b
def TD:=aq .lss k a λm=>aA m (aY 1 b k λn=>ag y n λf=>aI c λo=>au 5 o λp=>ag y p λq=>aX P q [f].toArray y λr g=>bY .not r λs=>aA s (C4 P k z g) (aI c λt=>au 7 t λv=>ag g v λw=>aV [I 0,I 0,I 0,I 0] [(0,1,I 1),(2,1,f)] λx=>uX 100 (bO [I 0,I 0,I 0,I 0] 1) [(0,4,x)] 1 g λA B=>uY 100 4 32 [I 0,I 0,I 0,I 0] w A B λC D=>aI c λE=>au 7 E λF=>aD 1 F C D λu j=>aI c λG=>au 0 G λH=>ag j H λJ=>ah P 180 [J,f] j λl L=>bp l 0 λM=>bp l 1 λaf=>aB 59 (.agg #[I 0,I 0,I 0]) L λi N=>aD 3 i M N λai e=>au 1 i λO=>ag e O λQ=>aI c λR=>au 2 R λS=>ag e S λT=>aY 1 T d λU=>ag e U λV=>au 2 i λW=>ag e W λX=>aq .add V X λY=>ah P 303 [c,Q,Y,f] e λaj aa=>C4 P k z aa)) (Z (.tuple #[]) y)
def TE:=aI a λd=>au 0 d λe=>ag y e λf=>ah P 27 [f,b] y λc g=>bB c λi=>bI (σ:=bt [15]) (λx hh j=>TD P i c a b z x.1 hh (λa0 hz=>j (a0,()) hz)) (I 0,()) g
def ahO(H:TE prog q r h K):aF prog 305 #[q,r] h K:=aG H func305 [(1,[15])]
def TF:=aq .geq a (I 0) λc=>aA c (ag y b λd=>ah P 36 [d] y λe f=>aq .lss a e λg=>z g f) (z (.bool false) y)
def ahP(H:TF prog q r h K):aF prog 306 #[q,r] h K:=aG H func306
def TG(P:Program)(l0 a:Value)(h:af)(K:KT):Prop:=aq .eql l0 (I 0) λb=>aA b (K (.bool true) h) (aq .eql l0 a λc=>K c h)
def ahQ(H:TG prog q r h K):aF prog 307 #[q,r] h K:=aG H func307
def TH(P:Program)(s0 b:Value)(h:af)(K:KT):Prop:=aI s0 λc=>au 1 c λd=>au 3 d λe=>ag h e λf=>bB f λg=>aq .eql g (I 0) λi=>aA i (K (.tuple #[I 0,.bool true]) h) (aI s0 λj=>au 1 j λk=>au 3 k λl=>ag h l λm=>aY 1 m b λn=>ag h n λa=>aq .gtr a (I (-72057594037927936)) λo=>aA o (aq .lss a (I 72057594037927936) λp=>K (.tuple #[a,p]) h) (K (.tuple #[a,.bool false]) h))
def ahR(H:TH prog q r h K):aF prog 308 #[q,r] h K:=aG H func308
def TI:=ah P 176 [a] y λc b=>aq .eql c (I 0) λd=>aA d (z (.tuple #[I 0,.bool false]) b) (aI a λe=>au 0 e λf=>au 0 f λg=>ag b g λi=>aY 2 i (I 0) λj=>au 1 j λk=>ag b k λl=>z (.tuple #[l,.bool true]) b)
def ahS(H:TI prog q h K):aF prog 309 #[q] h K:=aG H func309
def Hf(c:Value->Value->Value->KT):=aA n (uX 3 (bO [I 0] 1) [(0,1,l)] 1 y λd e=>uY 3 1 8 [I 0] k d e λf g=>aX P a [m].toArray g λb i=>bp b 0 λj=>bp b 1 λo=>bp b 2 λp=>c f j o p i) (Z k y)
def Hg:=aX P b [a].toArray y λc d=>bp c 0 λe=>bp c 1 λf=>bp c 2 λg=>bI (σ:=bt [4,5,6,7]) (λx hh i=>Hf P b z x.1 x.2.1 x.2.2.1 x.2.2.2.1 hh (λa0 j k a3 hz=>i (a0,(j,(k,(a3,())))) hz)) (aE,(e,(f,(g,())))) d
def TJ(H:Hg prog q r h K):aF prog 310 #[q,r] h K:=aG H func310 [(3,[4,5,6,7])]
def TK:=ag y b λn=>aI n λo=>au 6 o λp=>ag y p λq=>dP (.int .i64) (I 0) false y q a λf=>aq .lss f (I 0) λr=>aA r (z (.tuple #[I 0,I 0,.bool false]) y) (ag y c λs=>aI s λt=>au 0 t λv=>ag y v λw=>ah P 180 [w,f] y λi x=>bp i 0 λA=>bp i 1 λO=>aB 59 (.agg #[I 0,I 0,I 0]) x λe B=>aD 3 e A B λu d=>au 0 e λj=>ag d j λk=>au 1 e λl=>ag d l λm=>aq .add k m λC=>ag d b λD=>aI D λE=>au 4 E λF=>ag d F λG=>bq 3 d e λH=>aX P G [H].toArray d λJ g=>(ag g j λL=>L=k)/\(ag g l λM=>M=m)/\(aq .sub C J λN=>z (.tuple #[f,N,.bool true]) g))
def ahT(H:TK prog q r s h K):aF prog 311 #[q,r,s] h K:=aG H func311
def Hi(P:Program)(a b:Value)(h:af)(K:KT):Prop:=aB 3 a h λc d=>K (.func (.func 313) #[] #[c,b]) d
def TL(H:Hi prog q r h K):aF prog 312 #[q,r] h K:=aG H func312
def ahU(P:Program)(K:KT)(a:Value)(b:af):Prop:=K a b
def TM:=akV (σ:=bt [2]) (λJ=>ag y a λe=>aq .geq e (I 0) λf=>aA f (ag y a λc=>ag y b λg=>ah P 36 [g] y λi d=>(ag d a λj=>j=c)/\(aq .lss c i λk=>J (k,()) d)) (J (.bool false,()) y)) (λx hh=>ahU P z x.1 hh)
def ahV(H:TM prog q r h K):aF prog 313 #[q,r] h K:=aG H func313 [(1,[2])]
def TN:=aq .lss k a λf=>aA f (aY 2 b k λg=>bq 2 y g λi=>aB 436 (.agg #[.nilFunc,I 0]) y λc j=>aD 2 c i j λu e=>au 0 c λl=>ag e l λm=>aX P m [].toArray e λn d=>bY .not n λo=>aA o (au 1 c λp=>ag d p λq=>Z q d) (aq .add k (I 1) λr=>z r d)) (Z (I 0) y)
def TO:=bB a λb=>bI (σ:=bt [7]) (λx hh c=>TN P b a z x.1 hh (λa0 hz=>c (a0,()) hz)) (I 0,()) y
def ahW(H:TO prog q h K):aF prog 314 #[q] h K:=aG H func314 [(3,[7])]
def TP(P:Program)(a:Value)(h:af)(K:KT):Prop:=ag h a λb=>bL true .ptr b (.pointer none) λc=>K c h
def ahX(H:TP prog q h K):aF prog 315 #[q] h K:=aG H func315
def ahY(P:Program)(K:KT)(a:Value)(b:af):Prop:=K a b
def TQ:=akV (σ:=bt [2]) (λJ=>ag y a λf=>ah P 102 [f] y λg c=>bB g λi=>aq .gtr i (I 0) λj=>aA j (ag c a λk=>ag c b λd=>ah P 101 [k] c λl e=>(ag e b λm=>m=d)/\(ah P 36 [d] e λn o=>aq .eql l n λp=>J (p,()) o)) (J (.bool false,()) c)) (λx hh=>ahY P z x.1 hh)
def ahZ(H:TQ prog q r h K):aF prog 316 #[q,r] h K:=aG H func316 [(1,[2])]
def TR:=ah P 53 [a] y λd e=>ah P 367 [d,c] e λk f=>bB d λg=>lN b g λi=>eW 1 d none (some i) none λj=>z j f
def ah0(H:TR prog q r s h K):aF prog 317 #[q,r,s] h K:=aG H func317
def TS:=ag y c λk=>ag y d λl=>ag y e λm=>ag y c λg=>ag y d λi=>ag y e λj=>ah P 319 [k,b,l,m] y λn f=>(ag f c λo=>o=g)/\(ag f d λp=>p=i)/\(ag f e λq=>q=j)/\(ah P 319 [g,a,i,j] f λr s=>ah P 256 [n,r] s λt u=>z t u)
def ah1(H:TS prog q r s t u h K):aF prog 318 #[q,r,s,t,u] h K:=aG H func318
def Aa(P:Program)(K:KT)(a:af):Prop:=K (I 0) a
def TT:=ah P 320 [a,c] y λi f=>bY .not i λj=>aA j (Aa P z f) (ah P 320 [a,d] f λk e=>bY .not k λl=>aA l (Aa P z e) (aq .lss b (I 0) λm=>aA m (Aa P z e) (ah P 102 [a] e λn g=>bB n λo=>aq .geq b o λp=>aA p (Aa P z g) (ah P 368 [(.func (.func 170) #[a] #[]),(.func (.func 369) #[] #[]),b,c,d] g λq r=>ah P 368 [(.func (.func 171) #[a] #[]),(.func (.func 370) #[] #[]),b,c,d] r λs t=>jR q s λu=>z u t))))
def ah2(H:TT prog q r s t h K):aF prog 319 #[q,r,s,t] h K:=aG H func319
def TU:=aq .geq b (I 0) λc=>aA c (ah P 101 [a] y λd e=>aq .lss b d λf=>z f e) (z (.bool false) y)
def ah3(H:TU prog q r h K):aF prog 320 #[q,r] h K:=aG H func320
def Hj(P:Program)(a b:Value)(h:af)(K:KT):Prop:=aB 48 a h λc d=>aB 369 b d λe f=>K (.func (.func 371) #[] #[c,e]) f
def TV(H:Hj prog q r h K):aF prog 321 #[q,r] h K:=aG H func321
def TW:=ag y b λe=>ag y c λf=>ag y d λg=>ah P 323 [e,f,a,g] y λi j=>z i j
def ah4(H:TW prog q r s t h K):aF prog 322 #[q,r,s,t] h K:=aG H func322
def TX(f:Value->KT):=aq .lss l a λg=>aA g (aY 1 b l λi=>ag y i λj=>ah P 319 [c,j,d,e] y λm n=>jR k m λo=>aq .add l (I 1) λp=>f o p n) (Z k y)
def TY:=bB b λe=>bI (σ:=bt [8,13]) (λx hh f=>TX P e b a c d z x.1 x.2.1 hh (λa0 g hz=>f (a0,(g,())) hz)) (I 0,(I 0,())) y
def ah5(H:TY prog q r s t h K):aF prog 323 #[q,r,s,t] h K:=aG H func323 [(3,[8,13])]
def TZ:=aq .geq a (I 0) λc=>aA c (ag y b λd=>ah P 36 [d] y λe f=>aq .lss a e λg=>z g f) (z (.bool false) y)
def ah6(H:TZ prog q r h K):aF prog 324 #[q,r] h K:=aG H func324
def T0:=ag y a λb=>bL true .ptr b (.pointer none) λc=>ah P 216 [c,I 1] y λe d=>z (.tuple #[]) d
def ah7(H:T0 prog q h K):aF prog 325 #[q] h K:=aG H func325
def T5:=ag y a λc=>au 1 b λd=>ag y d λe=>aX P c [e].toArray y λf g=>ah P 216 [f,I 17] g λj i=>z (.tuple #[]) i
def ah8(H:T5 prog q r h K):aF prog 326 #[q,r] h K:=aG H func326
def T6:=ag y a λc=>au 2 b λd=>ag y d λe=>aX P c [e].toArray y λf g=>ah P 216 [f,I 18] g λj i=>z (.tuple #[]) i
def ah9(H:T6 prog q r h K):aF prog 327 #[q,r] h K:=aG H func327
def T7:=ag y a λf=>ah P 102 [f] y λg c=>bB g λi=>aq .gtr i (I 0) λj=>aA j (ag c a λk=>ag c b λd=>ah P 101 [k] c λl e=>(ag e b λm=>m=d)/\(ah P 36 [d] e λn o=>aq .eql l n λp=>ah P 216 [p,I 19] o λs q=>z (.tuple #[]) q)) (ah P 216 [.bool false,I 19] c λt r=>z (.tuple #[]) r)
def aia(H:T7 prog q r h K):aF prog 328 #[q,r] h K:=aG H func328
def T8:=ah P 372 [aE,a] y λb c=>z b c
def aib(H:T8 prog q h K):aF prog 329 #[q] h K:=aG H func329
def T9:=ag y b λk=>ag y c λl=>ag y d λm=>ag y b λg=>ag y c λi=>ag y e λj=>ah P 323 [k,l,a,m] y λn f=>(ag f b λo=>o=g)/\(ag f c λp=>p=i)/\(ag f e λq=>q=j)/\(ah P 323 [g,i,j,a] f λr s=>ah P 331 [n,r] s λt u=>z t u)
def aic(H:T9 prog q r s t u h K):aF prog 330 #[q,r,s,t,u] h K:=aG H func330
def Hq(P:Program)(K:KT)(a:af):Prop:=K (I 72057594037927936) a
def Ua:=ah P 373 [a] y λe c=>bY .not e λf=>aA f (Hq P z c) (ah P 373 [b] c λg d=>bY .not g λi=>aA i (Hq P z d) (ah P 374 [a] d λj k=>ah P 374 [b] k λl m=>aq .sub j l λn=>z n m))
def aid(H:Ua prog q r h K):aF prog 331 #[q,r] h K:=aG H func331
def Ub(P:Program)(s0:Value)(h:af)(K:KT):Prop:=aB 448 s0 h λa b=>K (.func (.func 375) #[] #[a]) b
def aie(H:Ub prog q h K):aF prog 332 #[q] h K:=aG H func332
def Uc(e:Value)(f:af)(i:KT):=aq .lss e a λj=>aA j (aY 1 b e λk=>ag f k λl=>aV [I 0,I 0,I 0,I 0,I 0,I 0] [(0,1,c),(1,1,e),(2,1,I 7),(3,1,l),(4,1,I (-2147483648)),(5,1,I 2147483648)] λm=>aX P d [m].toArray f λn g=>bY .not n λo=>aA o (Z (.tuple #[]) g) (aq .add e (I 1) λp=>i p g)) (aq .add c (I 1) λq=>z q f)
def Ud:=aq .lss k a λe=>aA e (au 1 b λf=>ag y f λg=>aY 1 g k λi=>ag y i λj=>au 2 b λl=>ag y l λm=>aY 1 m k λn=>ag y n λo=>uX 2 (bO [I 0] 2) [(0,1,j),(1,1,o)] 2 y λd p=>bB d λq=>bI (σ:=bt [24]) (λx hh r=>Uc P q d k c Z z x.1 hh (λa0 hz=>r (a0,()) hz)) (I 0,()) p) (Z (.tuple #[]) y)
def Ue:=au 1 b λc=>ag y c λd=>bB d λe=>bI (σ:=bt [9]) (λx hh f=>Ud P e b a z x.1 hh (λa0 hz=>f (a0,()) hz)) (I 0,()) y
def aif(H:Ue prog q r h K):aF prog 333 #[q,r] h K:=aG H func333 [(1,[9]),(7,[24])]
def Uf(d:Value)(e:af)(j:KT):=aq .lss d a λl=>aA l (aY 6 b d λm=>bq 6 e m λn=>aB 341 (.agg #[I 0,I 0,I 0,I 0,I 0,I 0]) e λf o=>aD 6 f n o λu g=>bq 6 g f λp=>aX P c [p].toArray g λq i=>bY .not q λr=>aA r (Z (.tuple #[]) i) (aq .add d (I 1) λs=>j s i)) (aq .add k (I 1) λt=>z t e)
def Ug:=aq .lss k a λi=>aA i (aY 3 b k λj=>bq 3 y j λl=>aB 59 (.agg #[I 0,I 0,I 0]) y λe m=>aD 3 e l m λu f=>au 0 e λn=>ag f n λo=>aV [I 0,I 0,I 0,I 0,I 0,I 0] [(0,1,k),(1,1,I 0),(2,1,I 9),(3,1,o),(4,1,I 0),(5,1,c)] λp=>au 1 e λq=>ag f q λr=>aV [I 0,I 0,I 0,I 0,I 0,I 0] [(0,1,k),(1,1,I 1),(2,1,I 9),(3,1,r),(4,1,I 0),(5,1,c)] λs=>au 2 e λt=>ag f t λv=>aV [I 0,I 0,I 0,I 0,I 0,I 0] [(0,1,k),(1,1,I 2),(2,1,I 10),(3,1,v),(4,1,I 0),(5,1,I 2147483648)] λw=>uX 341 (bO [I 0,I 0,I 0,I 0,I 0,I 0] 3) [(0,6,p),(6,6,s),(12,6,w)] 3 f λg A=>bB g λB=>bI (σ:=bt [34]) (λx hh C=>Uf P B g d Z k z x.1 hh (λa0 hz=>C (a0,()) hz)) (I 0,()) A) (Z (.tuple #[]) y)
def Uh:=au 0 b λd=>ag y d λe=>au 3 b λf=>ag y f λc=>bB c λg=>bI (σ:=bt [13]) (λx hh i=>Ug P g c e a z x.1 hh (λa0 hz=>i (a0,()) hz)) (I 0,()) y
def aih(H:Uh prog q r h K):aF prog 334 #[q,r] h K:=aG H func334 [(2,[13]),(8,[34])]
def Ui(P:Program)(a:Value)(h:af)(K:KT):Prop:=aB 43 a h λb c=>K (.func (.func 376) #[] #[b]) c
def aii(H:Ui prog q h K):aF prog 338 #[q] h K:=aG H func338
def Uj(s:Value->KT):=aq .lss l a λt=>aA t (aY 7 b l λv=>bq 7 y v λw=>aB 372 (.agg #[I 0,aE,aE,aE,aE,aE,aE]) y λf x=>aD 7 f w x λu e=>au 1 f λz=>au 0 z λA=>ag e A λB=>aY 1 B c λC=>ag e C λD=>au 1 f λE=>au 0 E λF=>ag e F λG=>aY 1 G d λH=>ag e H λJ=>au 4 f λL=>au 0 L λi=>ag e i λj=>aY 1 j c λm=>ag e m λn=>au 4 f λM=>au 0 M λo=>ag e o λp=>aY 1 p d λq=>ag e q λr=>ah P 369 [D,J] e λN g=>(ag g i λO=>O=j)/\(ag g m λQ=>Q=n)/\(ag g o λR=>R=p)/\(ag g q λS=>S=r)/\(ah P 370 [n,r] g λT U=>jR k N λV=>jR V T λW=>aq .add l (I 1) λX=>s W X U)) (Z k y)
def Uk:=bB a λd=>bI (σ:=bt [6,11]) (λx hh e=>Uj P d a b c z x.1 x.2.1 hh (λa0 f hz=>e (a0,(f,())) hz)) (I 0,(I 0,())) y
def aij(H:Uk prog q r s h K):aF prog 339 #[q,r,s] h K:=aG H func339 [(3,[6,11])]
def Ul:=ah P 379 [I 0,I 2305843009213693952] y λc d=>uX 2 (bO [I 0] 2) [(0,1,a),(1,1,b)] 2 d λe f=>ah P 378 [c,e] f λg i=>z g i
def aik(H:Ul prog q r h K):aF prog 340 #[q,r] h K:=aG H func340
def Un:=aq .lss k a λe=>aA e (aY 1 b k λf=>ag y f λg=>aX P c [g].toArray y λi d=>bY .not i λj=>aA j (Z (.tuple #[]) d) (aq .add k (I 1) λl=>z l d)) (Z (.tuple #[]) y)
def Uo:=ag y b λc=>bB c λd=>bI (σ:=bt [7]) (λx hh e=>Un P d c a z x.1 hh (λa0 hz=>e (a0,()) hz)) (I 0,()) y
def ail(H:Uo prog q r h K):aF prog 341 #[q,r] h K:=aG H func341 [(1,[7])]
def Up:=aq .lss k a λe=>aA e (aY 7 b k λf=>bq 7 y f λg=>aX P c [g].toArray y λi d=>aA i (Z k d) (aq .add k (I 1) λj=>z j d)) (Z (I (-1)) y)
def Uq:=bB a λc=>bI (σ:=bt [8]) (λx hh d=>Up P c a b z x.1 hh (λa0 hz=>d (a0,()) hz)) (I 0,()) y
def aim(H:Uq prog q r h K):aF prog 342 #[q,r] h K:=aG H func342 [(3,[8])]
def Ur(P:Program)(K:KT)(a:af):Prop:=K (.tuple #[I 0,.bool false]) a
def Us:=aq .lss b (I 0) λc=>aA c (Ur P z y) (bB a λd=>aq .geq b d λe=>aA e (Ur P z y) (aY 1 a b λf=>ag y f λg=>z (.tuple #[g,.bool true]) y))
def ain(H:Us prog q r h K):aF prog 343 #[q,r] h K:=aG H func343
def Ut(P:Program)(h:af)(K:KT):Prop:=aB 466 (.agg #[.nilFunc,.nilFunc,.nilFunc,.nilFunc]) h λa c=>aV [.nilFunc,.nilFunc,.nilFunc,.nilFunc] [(0,1,(.func (.func 380) #[] #[])),(1,1,(.func (.func 381) #[] #[])),(2,1,(.func (.func 382) #[] #[])),(3,1,(.func (.func 383) #[] #[]))] λd=>aD 4 a d c λu b=>bq 4 b a λres=>K res b
def aio(H:Ut prog h K):aF prog 344 #[] h K:=aG H func344
def Uu(e:Value->Value->KT):=aq .lss m a λf=>aA f (aY 1 b m λg=>ag y g λd=>aX P c [d].toArray y λi j=>lN k i λn=>aX P c [d].toArray j λo p=>jR l o λq=>aq .add m (I 1) λr=>e n q r p) (aq .sub l k λs=>Z s y)
def Uv:=bB a λd=>aq .eql d (I 0) λe=>aA e (z (I 0) y) (aY 1 a (I 0) λf=>ag y f λg=>aX P b [g].toArray y λc i=>bB a λj=>bI (σ:=bt [5,6,20]) (λx hh k=>Uu P j a b z x.1 x.2.1 x.2.2.1 hh (λa0 l m hz=>k (a0,(l,(m,()))) hz)) (c,(c,(I 0,()))) i)
def aip(H:Uv prog q r h K):aF prog 345 #[q,r] h K:=aG H func345 [(8,[5,6,20])]
def Uw:=ag y b λf=>aI f λg=>au 0 g λi=>ag y i λj=>ah P 248 [j,a] y λd e=>bp d 0 λk=>bp d 1 λl=>bp d 2 λp=>ag e c λm=>aX P m [k,l].toArray e λn o=>z n o
def aiq(H:Uw prog q r s h K):aF prog 346 #[q,r,s] h K:=aG H func346
def Ux:=bB a λc=>cJ .u64 c λd=>ah P 385 [d] y λe f=>ah P 384 [a,I 0,c,e,b] f λi g=>z (.tuple #[]) g
def air(H:Ux prog q r h K):aF prog 347 #[q,r] h K:=aG H func347
def C5(P:Program)(a:Value)(h:af)(K:KT):Prop:=aq .neq a a λb=>K b h
def Ht(H:C5 prog q h K):aF prog 348 #[q] h K:=aG H func348
def C6(P:Program)(a:Value)(h:af)(K:KT):Prop:=aq .neq a a λb=>K b h
def Hu(H:C6 prog q h K):aF prog 349 #[q] h K:=aG H func349
def C7(P:Program)(a:Value)(Z:KT)(b:af):Prop:=aq .add a (I 1) λc=>Z c b
def Uy:=aq .lss k a λf=>aA f (ag y b λg=>aX P g [k].toArray y λi d=>aA i (aX P c [k].toArray d λj e=>bY .not j λl=>aA l (Z (.tuple #[]) e) (C7 P k z e)) (C7 P k z d)) (Z (.tuple #[]) y)
def Uz:=ag y b λd=>bL false .ptr d (.pointer none) λe=>aA e (z (.tuple #[]) y) (ag y b λf=>aI f λg=>au 0 g λi=>ag y i λj=>bB j λk=>bI (σ:=bt [12]) (λx hh l=>Uy P k c a z x.1 hh (λa0 hz=>l (a0,()) hz)) (I 0,()) y)
def ais(H:Uz prog q r s h K):aF prog 350 #[q,r,s] h K:=aG H func350 [(3,[12])]
def UA:=bL true .ptr a (.pointer none) λc=>aA c (aq .geq b (I 0) λd=>aA d (ah P 36 [a] y λe f=>aq .lss b e λg=>z g f) (z (.bool false) y)) (z (.bool false) y)
def ait(H:UA prog q r h K):aF prog 351 #[q,r] h K:=aG H func351
def UB(P:Program)(b:af)(c d:Value)(L:Loop)(e:Value)(f:af)(R:Exit->af->Prop):Prop:=iZ (b.size+1) L f λa=>ag a c λg=>ag a d λi=>aY 1 g e λj=>aD 1 j i a λu k=>R .normal k
def UC:=aB 241 a y λe g=>aB 4 c g λi d=>gO P b [9] (d.size+1) (d.push (.deferred (some []))) (λL x hh R=>UB P d e i L x.1 hh R) (λf=>ag f e λj=>de (d.size:: []) f λk=>z j k) (λl=>de (d.size:: []) l λm=>z aE m) []
def aiu(H:UC prog q r s h K):aF prog 352 #[q,r,s] h K:=aG H func352
def UD(P:Program)(a b:Value)(h:af)(K:KT):Prop:=aB 3 a h λc d=>aB 105 b d λe f=>K (.func (.func 386) #[] #[c,e]) f
def aiv(H:UD prog q r h K):aF prog 353 #[q,r] h K:=aG H func353
def UE:=aB 47 a y λc d=>ag d c λf=>ah P 56 [f,b] d λg i=>aB 45 (.agg #[aE,aE,aE]) i λe j=>aD 3 e g j λu k=>z (.func (.func 387) #[] #[c,e]) k
def aiw(H:UE prog q r h K):aF prog 354 #[q,r] h K:=aG H func354
def UF:=aB 253 a y λr1 c=>ah P 389 [] c λd e=>aB 493 (.agg #[.int .u32 0,.int .u32 0,.int .u32 0,.int .u32 0,.int .u32 0,.int .u32 0,.int .u32 0,.int .u32 0,.int .u32 0,.int .u32 0,.int .u32 0,.int .u32 0,.int .u32 0,.int .u32 0,.int .u32 0,.int .u32 0]) e λb f=>aD 16 b d f λu g=>z (.func (.func 390) #[] #[r1,b]) g
def aix(H:UF prog q h K):aF prog 355 #[q] h K:=aG H func355
end Go.Proofs.YtacopgnplajifaaGreatDoor
