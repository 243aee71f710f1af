/- Texts of the proofs of seat YthglofkkjoiepaaGreatDoor, joined: Gen13, Gen14, Gen15, Gen16, Gen. They have no conditions of their own. -/
import Derived.Test.YthglofkkjoiepaaGreatDoorGa
set_option linter.unusedVariables false
set_option linter.unusedSimpArgs false
set_option linter.unusedSectionVars false

set_option maxRecDepth 100000
namespace Go.Proofs.YthglofkkjoiepaaGreatDoor
open Go Go.Mh
variable{h:aa}{K:KT}
set_option maxHeartbeats 0
def Rc(P:Program)(a:Value)(h:aa)(K:KT):Prop:=af h a λb=>af h a λc=>aJ c λd=>aq 4 d λe=>aq 2 e λf=>af h f λg=>ah P Af [b,g] h λi j=>K i j
theorem adx(a:Value)(H:Rc Tryz.prog a h K):aE Tryz.prog ET [a].toArray h K:=
 aO Tryz.func235 (Eq.mpr (by kernel_rfl) H)
def ady(P:Program)(K:KT)(a:Value)(b:aa):Prop:=K a b
def Re(P:Program)(a:Value)(h:aa)(K:KT):Prop:=eW (σ:=bw [2]) (λJ=>aJ a λc=>aq 2 c λd=>af h d λe=>aJ a λf=>aq 0 f λg=>aq 0 g λi=>af h i λj=>aJ a λk=>aq 0 k λl=>aq 1 l λm=>af h m λn=>ah P zL [e,j,n] h λo b=>az o (aJ a λp=>aq 4 p λq=>aq 0 q λr=>af b r λs=>ak .neq s (I 5) λt=>az t (J ((.bool true),()) b) (ah P Lc [a] b λu v=>J (u,()) v)) (J ((.bool false),()) b)) (λx hh=>ady P K x.1 hh)
theorem adz(a:Value)(H:Re Tryz.prog a h K):aE Tryz.prog EU [a].toArray h K:=
 bT (bA:=(bD (Tryz.f236.body.getD .skip) 0 [(1,[2])]).1) (c:=Tryz.f236.body.getD .skip) Tryz.func236 (by kernel_rfl) (by kernel_rfl) (by kernel_rfl) (of_decide_eq_true (by kernel_rfl))
  (Eq.mpr (by kernel_rfl) H)
def Rf(P:Program)(c:aa)(a:Value)(L:Loop)(d:Value)(e:aa)(R:Exit->aa->Prop):Prop:=gY (c.size+1) L e λb=>af b a λf=>cz au (bO [(I 0)] 1) [(0,1,d)] 1 b λg i=>cZ au 1 8 [(I 0)] f g i λj k=>aC 1 a j k λu l=>R .normal l
def Rg(P:Program)(f g:Value)(h:aa)(K:KT):Prop:=aB bR (.slice none 0 0) h λa i=>ah P Ld [f,g] i λj b=>gd P j [9] (b.size+1) (b.push (.deferred (some []))) (λL x hh R=>Rf P b a L x.1 hh R) (λc=>af c a λk=>aC 1 a k c λo l=>cH (b.size:: []) l λd=>af d a λres=>K res d) (λm=>cH (b.size:: []) m λe=>af e a λn=>K n e) []
theorem adA(a b:Value)(H:Rg Tryz.prog a b h K):aE Tryz.prog EV [a,b].toArray h K:=
 aO Tryz.func237 (Eq.mpr (by kernel_rfl) H)
def Rh(P:Program)(a0 a:Value)(h:aa)(K:KT):Prop:=aq 2 a λb=>af h b λc=>bx c λd=>ak .eql d (I 0) λe=>az e (K (.bool true) h) (aq 2 a λf=>af h f λg=>aW 1 g a0 λi=>af h i λj=>K j h)
theorem adB(a0 a:Value)(H:Rh Tryz.prog a0 a h K):aE Tryz.prog wN [a0,a].toArray h K:=
 aO Tryz.func238 (Eq.mpr (by kernel_rfl) H)
def Rj(P:Program)(b a:Value)(h:aa)(K:KT):Prop:=aq 3 a λc=>af h c λd=>bx d λe=>ak .eql e (I 0) λf=>az f (K (I 0) h) (aq 3 a λg=>af h g λi=>aW 1 i b λj=>af h j λk=>iH (I (-72057594037927936)) k λl=>K l h)
theorem adC(a b:Value)(H:Rj Tryz.prog a b h K):aE Tryz.prog Ag [a,b].toArray h K:=
 aO Tryz.func239 (Eq.mpr (by kernel_rfl) H)
def A6(P:Program)(s0 b c d:Value)(K:KT)(a:aa):Prop:=aJ s0 λe=>aq 2 e λf=>af a f λg=>aJ s0 λi=>aq 3 i λj=>af a j λk=>aW 1 g b λl=>aC 1 l c a λu m=>aW 1 k b λn=>aC 1 n d m λp o=>K (.tuple #[]) o
def A7(P:Program)(f s0 a d b e:Value)(K:KT)(c:aa):Prop:=az f (aJ s0 λg=>aq 1 g λi=>af c i λj=>ak .add a d λk=>ah P qg [j,b,k] c λr l=>A6 P s0 b a e K l) (aJ s0 λm=>aq 1 m λn=>af c n λo=>ak .add a d λp=>ah P oP [o,b,p] c λs q=>A6 P s0 b a e K q)
def Rk(P:Program)(s0 b c f:Value)(h:aa)(K:KT):Prop:=aJ s0 λj=>aq 6 j λk=>af h k λl=>aS P l [b].toArray h λd g=>aJ s0 λm=>aq 1 m λn=>af g n λo=>ah P tI [o,b] g λi a=>aX i 0 λB=>aX i 1 λe=>aJ s0 λp=>aq 4 p λq=>af a q λr=>aW 1 r b λs=>af a s λt=>az t (K (.tuple #[]) a) (ak .geq d (I 72057594037927936) λu=>az u (K (.tuple #[]) a) (az e (aJ s0 λv=>aq 2 v λw=>af a w λx=>aW 1 x b λy=>af a y λz=>ak .geq c z λA=>az A (K (.tuple #[]) a) (A7 P e s0 c d b f K a)) (A7 P e s0 c d b f K a)))
theorem adD(s0 a b c:Value)(H:Rk Tryz.prog s0 a b c h K):aE Tryz.prog Ah [s0,a,b,c].toArray h K:=
 aO Tryz.func240 (Eq.mpr (by kernel_rfl) H)
def Rl(P:Program)(s0 a:Value)(h:aa)(K:KT):Prop:=aB wY s0 h λs2 b=>aB au a b λv3 c=>K (.func (.func Fi) #[] #[s2,v3]) c
theorem adE(s0 a:Value)(H:Rl Tryz.prog s0 a h K):aE Tryz.prog K4 [s0,a].toArray h K:=
 aO Tryz.func241 (Eq.mpr (by kernel_rfl) H)
def A8(P:Program)(a:Value)(Z:KT)(b:aa):Prop:=ak .add a (I 1) λc=>Z c b
def Rm(P:Program)(j k s0 l:Value)(K:KT)(b:Value)(c:aa)(Z:KT):Prop:=ak .lss b j λm=>az m (aW 1 k b λn=>af c n λd=>aJ s0 λo=>aq 5 o λp=>af c p λq=>aS P q [d].toArray c λr e=>bS .not r λs=>az s (A8 P b Z e) (aJ s0 λt=>aq 7 t λv=>af e v λw=>aP [(I 0),(I 0),(I 0),(I 0)] [(0,1,(I 1)),(2,1,d)] λx=>cz eO (bO [(I 0),(I 0),(I 0),(I 0)] 1) [(0,4,x)] 1 e λy z=>cZ eO 4 32 [(I 0),(I 0),(I 0),(I 0)] w y z λA B=>aJ s0 λC=>aq 7 C λD=>aC 1 D A B λu g=>aJ s0 λE=>aq 0 E λF=>af g F λG=>ah P jN [G,d] g λi H=>aX i 0 λJ=>aX i 1 λY=>aB cC (.agg #[(I 0),(I 0),(I 0)]) H λf L=>aC 3 f J L λag a=>aq 1 f λM=>af a M λN=>aJ s0 λO=>aq 2 O λQ=>af a Q λR=>aW 1 R l λS=>af a S λT=>aq 2 f λU=>af a U λV=>ak .add T V λW=>ah P Ah [s0,N,W,d] a λai X=>A8 P b Z X)) (K (.tuple #[]) c)
def Rn(P:Program)(s0 a:Value)(h:aa)(K:KT):Prop:=aJ s0 λc=>aq 0 c λd=>af h d λe=>ah P rz [e,a] h λb f=>bx b λg=>bK (σ:=bw [15]) (λx hh i=>Rm P g b s0 a K x.1 hh (λa0 hz=>i (a0,()) hz)) ((I 0),()) f
theorem adF(s0 a:Value)(H:Rn Tryz.prog s0 a h K):aE Tryz.prog EW [s0,a].toArray h K:=
 bT (bA:=(bD (Tryz.f242.body.getD .skip) 0 [(1,[15])]).1) (c:=Tryz.f242.body.getD .skip) Tryz.func242 (by kernel_rfl) (by kernel_rfl) (by kernel_rfl) (of_decide_eq_true (by kernel_rfl))
  (Eq.mpr (by kernel_rfl) H)
def Rp(P:Program)(a b:Value)(h:aa)(K:KT):Prop:=ak .geq a (I 0) λc=>az c (af h b λd=>ah P ct [d] h λe f=>ak .lss a e λg=>K g f) (K (.bool false) h)
theorem adG(a b:Value)(H:Rp Tryz.prog a b h K):aE Tryz.prog Ai [a,b].toArray h K:=
 aO Tryz.func243 (Eq.mpr (by kernel_rfl) H)
def Rq(P:Program)(l0 a:Value)(h:aa)(K:KT):Prop:=ak .eql l0 (I 0) λb=>az b (K (.bool true) h) (ak .eql l0 a λc=>K c h)
theorem adH(l0 a:Value)(H:Rq Tryz.prog l0 a h K):aE Tryz.prog Aj [l0,a].toArray h K:=
 aO Tryz.func244 (Eq.mpr (by kernel_rfl) H)
def Rr(P:Program)(s0 b:Value)(h:aa)(K:KT):Prop:=aJ s0 λc=>aq 1 c λd=>aq 3 d λe=>af h e λf=>bx f λg=>ak .eql g (I 0) λi=>az i (K (.tuple #[(I 0),(.bool true)]) h) (aJ s0 λj=>aq 1 j λk=>aq 3 k λl=>af h l λm=>aW 1 m b λn=>af h n λa=>ak .gtr a (I (-72057594037927936)) λo=>az o (ak .lss a (I 72057594037927936) λp=>K (.tuple #[a,p]) h) (K (.tuple #[a,(.bool false)]) h))
theorem adI(s0 a:Value)(H:Rr Tryz.prog s0 a h K):aE Tryz.prog EX [s0,a].toArray h K:=
 aO Tryz.func245 (Eq.mpr (by kernel_rfl) H)
def Rt(P:Program)(b:Value)(h:aa)(K:KT):Prop:=ah P tH [b] h λc a=>ak .eql c (I 0) λd=>az d (K (.tuple #[(I 0),(.bool false)]) a) (aJ b λe=>aq 0 e λf=>aq 0 f λg=>af a g λi=>aW 2 i (I 0) λj=>aq 1 j λk=>af a k λl=>K (.tuple #[l,(.bool true)]) a)
theorem adJ(a:Value)(H:Rt Tryz.prog a h K):aE Tryz.prog tQ [a].toArray h K:=
 aO Tryz.func246 (Eq.mpr (by kernel_rfl) H)
def Gq(P:Program)(d:Value)(K:KT)(b e f g:Value)(c:aa)(Z:Value->Value->Value->KT):Prop:=az g (cz au (bO [(I 0)] 1) [(0,1,e)] 1 c λi j=>cZ au 1 8 [(I 0)] b i j λk l=>aS P d [f].toArray l λa m=>aX a 0 λn=>aX a 1 λo=>aX a 2 λp=>Z k n o p m) (K b c)
def Gr(P:Program)(c b:Value)(h:aa)(K:KT):Prop:=aS P b [c].toArray h λa d=>aX a 0 λe=>aX a 1 λf=>aX a 2 λg=>bK (σ:=bw [4,5,6,7]) (λx hh i=>Gq P b K x.1 x.2.1 x.2.2.1 x.2.2.2.1 hh (λa0 j k a3 hz=>i (a0,(j,(k,(a3,())))) hz)) ((.slice none 0 0),(e,(f,(g,())))) d
theorem Ru(a b:Value)(H:Gr Tryz.prog a b h K):aE Tryz.prog K5 [a,b].toArray h K:=
 bT (bA:=(bD (Tryz.f247.body.getD .skip) 0 [(3,[4,5,6,7])]).1) (c:=Tryz.f247.body.getD .skip) Tryz.func247 (by kernel_rfl) (by kernel_rfl) (by kernel_rfl) (of_decide_eq_true (by kernel_rfl))
  (Eq.mpr (by kernel_rfl) H)
def Rv(P:Program)(l e m:Value)(h:aa)(K:KT):Prop:=af h e λn=>aJ n λo=>aq 6 o λp=>af h p λq=>de (.int .i64) (I 0) false h q l λc=>ak .lss c (I 0) λr=>az r (K (.tuple #[(I 0),(I 0),(.bool false)]) h) (af h m λs=>aJ s λt=>aq 0 t λv=>af h v λw=>ah P jN [w,c] h λf x=>aX f 0 λy=>aX f 1 λM=>aB cC (.agg #[(I 0),(I 0),(I 0)]) x λb z=>aC 3 b y z λu a=>aq 0 b λg=>af a g λi=>aq 1 b λj=>af a j λk=>ak .add i k λA=>af a e λB=>aJ B λC=>aq 4 C λD=>af a D λE=>aZ 3 a b λF=>aS P E [F].toArray a λG d=>(af d g λH=>H=i)/\(af d j λJ=>J=k)/\(ak .sub A G λL=>K (.tuple #[c,L,(.bool true)]) d))
theorem adK(a b c:Value)(H:Rv Tryz.prog a b c h K):aE Tryz.prog EY [a,b,c].toArray h K:=
 aO Tryz.func248 (Eq.mpr (by kernel_rfl) H)
def Gs(P:Program)(a b:Value)(h:aa)(K:KT):Prop:=aB au a h λc d=>K (.func (.func rG) #[] #[c,b]) d
theorem Rw(a b:Value)(H:Gs Tryz.prog a b h K):aE Tryz.prog EZ [a,b].toArray h K:=
 aO Tryz.func249 (Eq.mpr (by kernel_rfl) H)
def adL(P:Program)(K:KT)(a:Value)(b:aa):Prop:=K a b
def Ry(P:Program)(a d:Value)(h:aa)(K:KT):Prop:=eW (σ:=bw [2]) (λJ=>af h a λe=>ak .geq e (I 0) λf=>az f (af h a λb=>af h d λg=>ah P ct [g] h λi c=>(af c a λj=>j=b)/\(ak .lss b i λk=>J (k,()) c)) (J ((.bool false),()) h)) (λx hh=>adL P K x.1 hh)
theorem adM(a b:Value)(H:Ry Tryz.prog a b h K):aE Tryz.prog rG [a,b].toArray h K:=
 bT (bA:=(bD (Tryz.f250.body.getD .skip) 0 [(1,[2])]).1) (c:=Tryz.f250.body.getD .skip) Tryz.func250 (by kernel_rfl) (by kernel_rfl) (by kernel_rfl) (of_decide_eq_true (by kernel_rfl))
  (Eq.mpr (by kernel_rfl) H)
def Rz(P:Program)(f l0:Value)(K:KT)(a:Value)(b:aa)(Z:KT):Prop:=ak .lss a f λg=>az g (aW 2 l0 a λi=>aZ 2 b i λj=>aB Lr (.agg #[.nilFunc,(I 0)]) b λc k=>aC 2 c j k λu e=>aq 0 c λl=>af e l λm=>aS P m [].toArray e λn d=>bS .not n λo=>az o (aq 1 c λp=>af d p λq=>K q d) (ak .add a (I 1) λr=>Z r d)) (K (I 0) b)
def RA(P:Program)(l0:Value)(h:aa)(K:KT):Prop:=bx l0 λa=>bK (σ:=bw [7]) (λx hh b=>Rz P a l0 K x.1 hh (λa0 hz=>b (a0,()) hz)) ((I 0),()) h
theorem adN(l0:Value)(H:RA Tryz.prog l0 h K):aE Tryz.prog E0 [l0].toArray h K:=
 bT (bA:=(bD (Tryz.f251.body.getD .skip) 0 [(3,[7])]).1) (c:=Tryz.f251.body.getD .skip) Tryz.func251 (by kernel_rfl) (by kernel_rfl) (by kernel_rfl) (of_decide_eq_true (by kernel_rfl))
  (Eq.mpr (by kernel_rfl) H)
def RB(P:Program)(a:Value)(h:aa)(K:KT):Prop:=af h a λb=>bL true .ptr b (.pointer none) λc=>K c h
theorem adO(a:Value)(H:RB Tryz.prog a h K):aE Tryz.prog Ak [a].toArray h K:=
 aO Tryz.func252 (Eq.mpr (by kernel_rfl) H)
def adP(P:Program)(K:KT)(a:Value)(b:aa):Prop:=K a b
def RC(P:Program)(b c:Value)(h:aa)(K:KT):Prop:=eW (σ:=bw [2]) (λJ=>af h b λf=>ah P qf [f] h λg a=>bx g λi=>ak .gtr i (I 0) λj=>az j (af a b λk=>af a c λd=>ah P qe [k] a λl e=>(af e c λm=>m=d)/\(ah P ct [d] e λn o=>ak .eql l n λp=>J (p,()) o)) (J ((.bool false),()) a)) (λx hh=>adP P K x.1 hh)
theorem adQ(a b:Value)(H:RC Tryz.prog a b h K):aE Tryz.prog Al [a,b].toArray h K:=
 bT (bA:=(bD (Tryz.f253.body.getD .skip) 0 [(1,[2])]).1) (c:=Tryz.f253.body.getD .skip) Tryz.func253 (by kernel_rfl) (by kernel_rfl) (by kernel_rfl) (of_decide_eq_true (by kernel_rfl))
  (Eq.mpr (by kernel_rfl) H)
def RD(P:Program)(l0 many1 order2:Value)(h:aa)(K:KT):Prop:=ah P nS [l0] h λa b=>ah P Fj [a,order2] b λg c=>bx a λd=>jD many1 d λe=>dY 1 a none (some e) none λf=>K f c
theorem adR(l0 many1 order2:Value)(H:RD Tryz.prog l0 many1 order2 h K):aE Tryz.prog K6 [l0,many1,order2].toArray h K:=
 aO Tryz.func254 (Eq.mpr (by kernel_rfl) H)
def RE(P:Program)(a0 i b c d:Value)(h:aa)(K:KT):Prop:=af h b λj=>af h c λk=>af h d λl=>af h b λe=>af h c λf=>af h d λg=>ah P wO [j,i,k,l] h λm a=>(af a b λn=>n=e)/\(af a c λo=>o=f)/\(af a d λp=>p=g)/\(ah P wO [e,a0,f,g] a λq r=>ah P tO [m,q] r λs t=>K s t)
theorem adS(a0 a b c d:Value)(H:RE Tryz.prog a0 a b c d h K):aE Tryz.prog K7 [a0,a,b,c,d].toArray h K:=
 aO Tryz.func255 (Eq.mpr (by kernel_rfl) H)
def xo(P:Program)(K:KT)(a:aa):Prop:=K (I 0) a
def RF(P:Program)(a b c d:Value)(h:aa)(K:KT):Prop:=ah P rH [a,c] h λi f=>bS .not i λj=>az j (xo P K f) (ah P rH [a,d] f λk e=>bS .not k λl=>az l (xo P K e) (ak .lss b (I 0) λm=>az m (xo P K e) (ah P qf [a] e λn g=>bx n λo=>ak .geq b o λp=>az p (xo P K g) (ah P Fk [(.func (.func Fl) #[a] #[]),(.func (.func wS) #[] #[]),b,c,d] g λq r=>ah P Fk [(.func (.func Fm) #[a] #[]),(.func (.func Ar) #[] #[]),b,c,d] r λs t=>iH q s λu=>K u t))))
theorem adT(a b c d:Value)(H:RF Tryz.prog a b c d h K):aE Tryz.prog wO [a,b,c,d].toArray h K:=
 aO Tryz.func256 (Eq.mpr (by kernel_rfl) H)
def RG(P:Program)(b a:Value)(h:aa)(K:KT):Prop:=ak .geq a (I 0) λc=>az c (ah P qe [b] h λd e=>ak .lss a d λf=>K f e) (K (.bool false) h)
theorem adU(a b:Value)(H:RG Tryz.prog a b h K):aE Tryz.prog rH [a,b].toArray h K:=
 aO Tryz.func257 (Eq.mpr (by kernel_rfl) H)
def Gt(P:Program)(a b:Value)(h:aa)(K:KT):Prop:=aB eY a h λc d=>aB kK b d λe f=>K (.func (.func Fo) #[] #[c,e]) f
theorem RH(a b:Value)(H:Gt Tryz.prog a b h K):aE Tryz.prog E1 [a,b].toArray h K:=
 aO Tryz.func258 (Eq.mpr (by kernel_rfl) H)
def RI(P:Program)(a b c d:Value)(h:aa)(K:KT):Prop:=af h b λe=>af h c λf=>af h d λg=>ah P wQ [e,f,a,g] h λi j=>K i j
theorem adV(a b c d:Value)(H:RI Tryz.prog a b c d h K):aE Tryz.prog wP [a,b,c,d].toArray h K:=
 aO Tryz.func259 (Eq.mpr (by kernel_rfl) H)
def RJ(P:Program)(d e f g i:Value)(K:KT)(c a:Value)(b:aa)(Z:Value->KT):Prop:=ak .lss a d λj=>az j (aW 1 e a λk=>af b k λl=>ah P wO [f,l,g,i] b λm n=>iH c m λo=>ak .add a (I 1) λp=>Z o p n) (K c b)
def RK(P:Program)(b a c d:Value)(h:aa)(K:KT):Prop:=bx a λe=>bK (σ:=bw [8,13]) (λx hh f=>RJ P e a b c d K x.1 x.2.1 hh (λa0 g hz=>f (a0,(g,())) hz)) ((I 0),((I 0),())) h
theorem adW(a b d e:Value)(H:RK Tryz.prog a b d e h K):aE Tryz.prog wQ [a,b,d,e].toArray h K:=
 bT (bA:=(bD (Tryz.f260.body.getD .skip) 0 [(3,[8,13])]).1) (c:=Tryz.f260.body.getD .skip) Tryz.func260 (by kernel_rfl) (by kernel_rfl) (by kernel_rfl) (of_decide_eq_true (by kernel_rfl))
  (Eq.mpr (by kernel_rfl) H)
def RM(P:Program)(a b:Value)(h:aa)(K:KT):Prop:=ak .geq a (I 0) λc=>az c (af h b λd=>ah P ct [d] h λe f=>ak .lss a e λg=>K g f) (K (.bool false) h)
theorem adX(a b:Value)(H:RM Tryz.prog a b h K):aE Tryz.prog rI [a,b].toArray h K:=
 aO Tryz.func261 (Eq.mpr (by kernel_rfl) H)
end Go.Proofs.YthglofkkjoiepaaGreatDoor

set_option maxRecDepth 100000
namespace Go.Proofs.YthglofkkjoiepaaGreatDoor
open Go Go.Mh
variable{h:aa}{K:KT}
set_option maxHeartbeats 0
def RN(P:Program)(a:Value)(h:aa)(K:KT):Prop:=af h a λb=>bL true .ptr b (.pointer none) λc=>ah P nU [c,(I 1)] h λe d=>K (.tuple #[]) d
theorem adY(a:Value)(H:RN Tryz.prog a h K):aE Tryz.prog E2 [a].toArray h K:=
 aO Tryz.func262 (Eq.mpr (by kernel_rfl) H)
def RO(P:Program)(a b:Value)(h:aa)(K:KT):Prop:=af h a λc=>aq 1 b λd=>af h d λe=>aS P c [e].toArray h λf g=>ah P nU [f,(I 17)] g λj i=>K (.tuple #[]) i
theorem adZ(a b:Value)(H:RO Tryz.prog a b h K):aE Tryz.prog E3 [a,b].toArray h K:=
 aO Tryz.func263 (Eq.mpr (by kernel_rfl) H)
def RP(P:Program)(a b:Value)(h:aa)(K:KT):Prop:=af h a λc=>aq 2 b λd=>af h d λe=>aS P c [e].toArray h λf g=>ah P nU [f,(I 18)] g λj i=>K (.tuple #[]) i
theorem ad0(a b:Value)(H:RP Tryz.prog a b h K):aE Tryz.prog E4 [a,b].toArray h K:=
 aO Tryz.func264 (Eq.mpr (by kernel_rfl) H)
def RQ(P:Program)(b c:Value)(h:aa)(K:KT):Prop:=af h b λf=>ah P qf [f] h λg a=>bx g λi=>ak .gtr i (I 0) λj=>az j (af a b λk=>af a c λd=>ah P qe [k] a λl e=>(af e c λm=>m=d)/\(ah P ct [d] e λn o=>ak .eql l n λp=>ah P nU [p,(I 19)] o λs q=>K (.tuple #[]) q)) (ah P nU [(.bool false),(I 19)] a λt r=>K (.tuple #[]) r)
theorem ad1(a b:Value)(H:RQ Tryz.prog a b h K):aE Tryz.prog E5 [a,b].toArray h K:=
 aO Tryz.func265 (Eq.mpr (by kernel_rfl) H)
def RR(P:Program)(a:Value)(h:aa)(K:KT):Prop:=ah P Lf [(.slice none 0 0),a] h λb c=>K b c
theorem ad2(a:Value)(H:RR Tryz.prog a h K):aE Tryz.prog E6 [a].toArray h K:=
 aO Tryz.func266 (Eq.mpr (by kernel_rfl) H)
def RS(P:Program)(d b c j e:Value)(h:aa)(K:KT):Prop:=af h b λk=>af h c λl=>af h j λm=>af h b λf=>af h c λg=>af h e λi=>ah P wQ [k,l,d,m] h λn a=>(af a b λo=>o=f)/\(af a c λp=>p=g)/\(af a e λq=>q=i)/\(ah P wQ [f,g,i,d] a λr s=>ah P E7 [n,r] s λt u=>K t u)
theorem ad3(a b c d e:Value)(H:RS Tryz.prog a b c d e h K):aE Tryz.prog wR [a,b,c,d,e].toArray h K:=
 aO Tryz.func267 (Eq.mpr (by kernel_rfl) H)
def Gu(P:Program)(K:KT)(a:aa):Prop:=K (I 72057594037927936) a
def RT(P:Program)(a b:Value)(h:aa)(K:KT):Prop:=ah P rJ [a] h λe c=>bS .not e λf=>az f (Gu P K c) (ah P rJ [b] c λg d=>bS .not g λi=>az i (Gu P K d) (ah P nV [a] d λj k=>ah P nV [b] k λl m=>ak .sub j l λn=>K n m))
theorem ad4(a b:Value)(H:RT Tryz.prog a b h K):aE Tryz.prog E7 [a,b].toArray h K:=
 aO Tryz.func268 (Eq.mpr (by kernel_rfl) H)
def RU(P:Program)(f g i:Value)(K:KT)(a:Value)(b:aa)(Z:KT):Prop:=ak .lss a f λj=>az j (aW 6 g a λk=>aZ 6 b k λl=>aB lE (.agg #[(I 0),(I 0),(I 0),(I 0),(I 0),(I 0)]) b λc m=>aC 6 c l m λu d=>aZ 6 d c λn=>aS P i [n].toArray d λo e=>bS .not o λp=>az p (K (.tuple #[]) e) (ak .add a (I 1) λq=>Z q e)) (K (.tuple #[]) b)
def RV(P:Program)(b c:Value)(h:aa)(K:KT):Prop:=af h c λa=>bx a λd=>bK (σ:=bw [7]) (λx hh e=>RU P d a b K x.1 hh (λa0 hz=>e (a0,()) hz)) ((I 0),()) h
theorem ad5(a b:Value)(H:RV Tryz.prog a b h K):aE Tryz.prog E8 [a,b].toArray h K:=
 bT (bA:=(bD (Tryz.f269.body.getD .skip) 0 [(1,[7])]).1) (c:=Tryz.f269.body.getD .skip) Tryz.func269 (by kernel_rfl) (by kernel_rfl) (by kernel_rfl) (of_decide_eq_true (by kernel_rfl))
  (Eq.mpr (by kernel_rfl) H)
def RX(P:Program)(a:Value)(h:aa)(K:KT):Prop:=aB bR a h λb c=>K (.func (.func Fp) #[] #[b]) c
theorem ad6(a:Value)(H:RX Tryz.prog a h K):aE Tryz.prog K8 [a].toArray h K:=
 aO Tryz.func270 (Eq.mpr (by kernel_rfl) H)
def RY(P:Program)(r l0 f g:Value)(K:KT)(i d:Value)(e:aa)(Z:Value->KT):Prop:=ak .lss d r λs=>az s (aW 7 l0 d λt=>aZ 7 e t λv=>aB gG (.agg #[(I 0),(.slice none 0 0),(.slice none 0 0),(.slice none 0 0),(.slice none 0 0),(.slice none 0 0),(.slice none 0 0)]) e λb w=>aC 7 b v w λu a=>aq 1 b λx=>aq 0 x λy=>af a y λz=>aW 1 z f λA=>af a A λB=>aq 1 b λC=>aq 0 C λD=>af a D λE=>aW 1 E g λF=>af a F λG=>aq 4 b λH=>aq 0 H λj=>af a j λk=>aW 1 k f λl=>af a l λm=>aq 4 b λJ=>aq 0 J λn=>af a n λo=>aW 1 o g λp=>af a p λq=>ah P wS [B,G] a λL c=>(af c j λM=>M=k)/\(af c l λN=>N=m)/\(af c n λO=>O=o)/\(af c p λQ=>Q=q)/\(ah P Ar [m,q] c λR S=>iH i L λT=>iH T R λU=>ak .add d (I 1) λV=>Z U V S)) (K i e)
def RZ(P:Program)(l0 a b:Value)(h:aa)(K:KT):Prop:=bx l0 λc=>bK (σ:=bw [6,11]) (λx hh d=>RY P c l0 a b K x.1 x.2.1 hh (λa0 e hz=>d (a0,(e,())) hz)) ((I 0),((I 0),())) h
theorem ad7(l0 a b:Value)(H:RZ Tryz.prog l0 a b h K):aE Tryz.prog E9 [l0,a,b].toArray h K:=
 bT (bA:=(bD (Tryz.f271.body.getD .skip) 0 [(3,[6,11])]).1) (c:=Tryz.f271.body.getD .skip) Tryz.func271 (by kernel_rfl) (by kernel_rfl) (by kernel_rfl) (of_decide_eq_true (by kernel_rfl))
  (Eq.mpr (by kernel_rfl) H)
def R3(P:Program)(a0 a:Value)(h:aa)(K:KT):Prop:=ah P Fs [(I 0),(I 2305843009213693952)] h λb c=>cz bY (bO [(I 0)] 2) [(0,1,a0),(1,1,a)] 2 c λd e=>ah P Fq [b,d] e λf g=>K f g
theorem ad8(a0 a:Value)(H:R3 Tryz.prog a0 a h K):aE Tryz.prog Fa [a0,a].toArray h K:=
 aO Tryz.func272 (Eq.mpr (by kernel_rfl) H)
def R6(P:Program)(d e f:Value)(K:KT)(a:Value)(b:aa)(Z:KT):Prop:=ak .lss a d λg=>az g (aW 1 e a λi=>af b i λj=>aS P f [j].toArray b λk c=>bS .not k λl=>az l (K (.tuple #[]) c) (ak .add a (I 1) λm=>Z m c)) (K (.tuple #[]) b)
def R7(P:Program)(b c:Value)(h:aa)(K:KT):Prop:=af h c λa=>bx a λd=>bK (σ:=bw [7]) (λx hh e=>R6 P d a b K x.1 hh (λa0 hz=>e (a0,()) hz)) ((I 0),()) h
theorem ad9(a b:Value)(H:R7 Tryz.prog a b h K):aE Tryz.prog tR [a,b].toArray h K:=
 bT (bA:=(bD (Tryz.f273.body.getD .skip) 0 [(1,[7])]).1) (c:=Tryz.f273.body.getD .skip) Tryz.func273 (by kernel_rfl) (by kernel_rfl) (by kernel_rfl) (of_decide_eq_true (by kernel_rfl))
  (Eq.mpr (by kernel_rfl) H)
def R8(P:Program)(d s0 e:Value)(K:KT)(a:Value)(b:aa)(Z:KT):Prop:=ak .lss a d λf=>az f (aW 7 s0 a λg=>aZ 7 b g λi=>aS P e [i].toArray b λj c=>az j (K a c) (ak .add a (I 1) λk=>Z k c)) (K (I (-1)) b)
def R9(P:Program)(s0 a:Value)(h:aa)(K:KT):Prop:=bx s0 λb=>bK (σ:=bw [8]) (λx hh c=>R8 P b s0 a K x.1 hh (λa0 hz=>c (a0,()) hz)) ((I 0),()) h
theorem aea(s0 a:Value)(H:R9 Tryz.prog s0 a h K):aE Tryz.prog K9 [s0,a].toArray h K:=
 bT (bA:=(bD (Tryz.f274.body.getD .skip) 0 [(3,[8])]).1) (c:=Tryz.f274.body.getD .skip) Tryz.func274 (by kernel_rfl) (by kernel_rfl) (by kernel_rfl) (of_decide_eq_true (by kernel_rfl))
  (Eq.mpr (by kernel_rfl) H)
def Sa(P:Program)(K:KT)(a:aa):Prop:=K (.tuple #[(I 0),(.bool false)]) a
def Sb(P:Program)(l0 a:Value)(h:aa)(K:KT):Prop:=ak .lss a (I 0) λb=>az b (Sa P K h) (bx l0 λc=>ak .geq a c λd=>az d (Sa P K h) (aW 1 l0 a λe=>af h e λf=>K (.tuple #[f,(.bool true)]) h))
theorem aeb(l0 a:Value)(H:Sb Tryz.prog l0 a h K):aE Tryz.prog Am [l0,a].toArray h K:=
 aO Tryz.func275 (Eq.mpr (by kernel_rfl) H)
def Sc(P:Program)(h:aa)(K:KT):Prop:=aB ZX (.agg #[.nilFunc,.nilFunc,.nilFunc,.nilFunc]) h λa c=>aP [.nilFunc,.nilFunc,.nilFunc,.nilFunc] [(0,1,(.func (.func Ft) #[] #[])),(1,1,(.func (.func Fu) #[] #[])),(2,1,(.func (.func Fv) #[] #[])),(3,1,(.func (.func Fw) #[] #[]))] λd=>aC 4 a d c λu b=>aZ 4 b a λres=>K res b
theorem aec(H:Sc Tryz.prog h K):aE Tryz.prog An [].toArray h K:=
 aO Tryz.func276 (Eq.mpr (by kernel_rfl) H)
def Sd(P:Program)(g l0 c:Value)(K:KT)(d e a:Value)(b:aa)(Z:Value->Value->KT):Prop:=ak .lss a g λi=>az i (aW 1 l0 a λj=>af b j λf=>aS P c [f].toArray b λk l=>jD d k λm=>aS P c [f].toArray l λn o=>iH e n λp=>ak .add a (I 1) λq=>Z m p q o) (ak .sub e d λr=>K r b)
def Se(P:Program)(l0 a:Value)(h:aa)(K:KT):Prop:=bx l0 λc=>ak .eql c (I 0) λd=>az d (K (I 0) h) (aW 1 l0 (I 0) λe=>af h e λf=>aS P a [f].toArray h λb g=>bx l0 λi=>bK (σ:=bw [5,6,20]) (λx hh j=>Sd P i l0 a K x.1 x.2.1 x.2.2.1 hh (λa0 k l hz=>j (a0,(k,(l,()))) hz)) (b,(b,((I 0),()))) g)
theorem aed(l0 a:Value)(H:Se Tryz.prog l0 a h K):aE Tryz.prog Fb [l0,a].toArray h K:=
 bT (bA:=(bD (Tryz.f277.body.getD .skip) 0 [(8,[5,6,20])]).1) (c:=Tryz.f277.body.getD .skip) Tryz.func277 (by kernel_rfl) (by kernel_rfl) (by kernel_rfl) (of_decide_eq_true (by kernel_rfl))
  (Eq.mpr (by kernel_rfl) H)
def Sf(P:Program)(c d e:Value)(h:aa)(K:KT):Prop:=af h d λf=>aJ f λg=>aq 0 g λi=>af h i λj=>ah P Ac [j,c] h λa b=>aX a 0 λk=>aX a 1 λl=>aX a 2 λp=>af b e λm=>aS P m [k,l].toArray b λn o=>K n o
theorem aee(a b c:Value)(H:Sf Tryz.prog a b c h K):aE Tryz.prog Fc [a,b,c].toArray h K:=
 aO Tryz.func278 (Eq.mpr (by kernel_rfl) H)
def Sg(P:Program)(a c:Value)(h:aa)(K:KT):Prop:=bx a λb=>fR .u64 b λd=>ah P Fx [d] h λe f=>ah P wT [a,(I 0),b,e,c] f λi g=>K (.tuple #[]) g
theorem aef(a b:Value)(H:Sg Tryz.prog a b h K):aE Tryz.prog tS [a,b].toArray h K:=
 aO Tryz.func279 (Eq.mpr (by kernel_rfl) H)
def A9(P:Program)(a:Value)(h:aa)(K:KT):Prop:=ak .neq a a λb=>K b h
theorem Gv(a:Value)(H:A9 Tryz.prog a h K):aE Tryz.prog Ao [a].toArray h K:=
 aO Tryz.func280 (Eq.mpr (by kernel_rfl) H)
def Ba(P:Program)(a:Value)(h:aa)(K:KT):Prop:=ak .neq a a λb=>K b h
theorem Gw(a:Value)(H:Ba Tryz.prog a h K):aE Tryz.prog Ap [a].toArray h K:=
 aO Tryz.func281 (Eq.mpr (by kernel_rfl) H)
def Bb(P:Program)(a:Value)(Z:KT)(b:aa):Prop:=ak .add a (I 1) λc=>Z c b
def Sh(P:Program)(e f g:Value)(K:KT)(a:Value)(b:aa)(Z:KT):Prop:=ak .lss a e λi=>az i (af b f λj=>aS P j [a].toArray b λk c=>az k (aS P g [a].toArray c λl d=>bS .not l λm=>az m (K (.tuple #[]) d) (Bb P a Z d)) (Bb P a Z c)) (K (.tuple #[]) b)
def Si(P:Program)(b a c:Value)(h:aa)(K:KT):Prop:=af h a λd=>bL false .ptr d (.pointer none) λe=>az e (K (.tuple #[]) h) (af h a λf=>aJ f λg=>aq 0 g λi=>af h i λj=>bx j λk=>bK (σ:=bw [12]) (λx hh l=>Sh P k c b K x.1 hh (λa0 hz=>l (a0,()) hz)) ((I 0),()) h)
theorem aeg(a b d:Value)(H:Si Tryz.prog a b d h K):aE Tryz.prog Ff [a,b,d].toArray h K:=
 bT (bA:=(bD (Tryz.f282.body.getD .skip) 0 [(3,[12])]).1) (c:=Tryz.f282.body.getD .skip) Tryz.func282 (by kernel_rfl) (by kernel_rfl) (by kernel_rfl) (of_decide_eq_true (by kernel_rfl))
  (Eq.mpr (by kernel_rfl) H)
def Sj(P:Program)(a b:Value)(h:aa)(K:KT):Prop:=bL true .ptr a (.pointer none) λc=>az c (ak .geq b (I 0) λd=>az d (ah P ct [a] h λe f=>ak .lss b e λg=>K g f) (K (.bool false) h)) (K (.bool false) h)
theorem aeh(a b:Value)(H:Sj Tryz.prog a b h K):aE Tryz.prog Fg [a,b].toArray h K:=
 aO Tryz.func283 (Eq.mpr (by kernel_rfl) H)
def Sk(P:Program)(b:aa)(c d:Value)(L:Loop)(e:Value)(f:aa)(R:Exit->aa->Prop):Prop:=gY (b.size+1) L f λa=>af a c λg=>af a d λi=>aW 1 g e λj=>aC 1 j i a λu k=>R .normal k
def Sl(P:Program)(l0 dH d:Value)(h:aa)(K:KT):Prop:=aB oT l0 h λb e=>aB eA d e λf a=>gd P dH [9] (a.size+1) (a.push (.deferred (some []))) (λL x hh R=>Sk P a b f L x.1 hh R) (λc=>af c b λg=>cH (a.size:: []) c λi=>K g i) (λj=>cH (a.size:: []) j λk=>K (.slice none 0 0) k) []
theorem aei(l0 dH a:Value)(H:Sl Tryz.prog l0 dH a h K):aE Tryz.prog Fh [l0,dH,a].toArray h K:=
 aO Tryz.func284 (Eq.mpr (by kernel_rfl) H)
def Sn(P:Program)(a b:Value)(h:aa)(K:KT):Prop:=aB au a h λc d=>aB fH b d λe f=>K (.func (.func Fy) #[] #[c,e]) f
theorem aej(a b:Value)(H:Sn Tryz.prog a b h K):aE Tryz.prog La [a,b].toArray h K:=
 aO Tryz.func285 (Eq.mpr (by kernel_rfl) H)
def Sp(P:Program)(d e:Value)(h:aa)(K:KT):Prop:=aB cq d h λa b=>af b a λf=>ah P tu [f,e] b λg i=>aB qi (.agg #[(.slice none 0 0),(.slice none 0 0),(.slice none 0 0)]) i λc j=>aC 3 c g j λu k=>K (.func (.func As) #[] #[a,c]) k
theorem aek(a b:Value)(H:Sp Tryz.prog a b h K):aE Tryz.prog Lb [a,b].toArray h K:=
 aO Tryz.func286 (Eq.mpr (by kernel_rfl) H)
def Sq(P:Program)(d e f:Value)(K:KT)(b:Value)(a:aa)(Z:KT):Prop:=af a d λg=>ak .mul (I 4) g λi=>ak .add i (I 4) λj=>ak .leq b j λk=>az k (af a e λl=>aJ l λm=>aq 0 m λn=>af a n λo=>bx o λp=>ak .lss b p λq=>az q (aS P f [b].toArray a λr c=>bS .not r λs=>az s (K (.tuple #[]) c) (ak .add b (I 1) λt=>Z t c)) (K (.tuple #[]) a)) (K (.tuple #[]) a)
def Sr(P:Program)(b a c:Value)(h:aa)(K:KT):Prop:=af h a λd=>ak .mul (I 4) d λe=>ak .add e (I 1) λf=>bK (σ:=bw [4]) (λx hh g=>Sq P a c b K x.1 hh (λa0 hz=>g (a0,()) hz)) (f,()) h
theorem ael(a b d:Value)(H:Sr Tryz.prog a b d h K):aE Tryz.prog Aq [a,b,d].toArray h K:=
 bT (bA:=(bD (Tryz.f287.body.getD .skip) 0 [(1,[4])]).1) (c:=Tryz.f287.body.getD .skip) Tryz.func287 (by kernel_rfl) (by kernel_rfl) (by kernel_rfl) (of_decide_eq_true (by kernel_rfl))
  (Eq.mpr (by kernel_rfl) H)
def aem(P:Program)(K:KT)(a:Value)(b:aa):Prop:=K a b
def Ss(P:Program)(b:Value)(h:aa)(K:KT):Prop:=eW (σ:=bw [2]) (λJ=>aJ b λf=>aq 3 f λg=>af h g λi=>ah P qf [i] h λj a=>bx j λk=>ak .gtr k (I 0) λl=>az l (aJ b λm=>aq 3 m λn=>af a n λo=>aJ b λp=>aq 2 p λc=>af a c λd=>ah P qe [o] a λq e=>(af e c λr=>r=d)/\(ah P ct [d] e λs t=>ak .eql q s λu=>J (u,()) t)) (J ((.bool false),()) a)) (λx hh=>aem P K x.1 hh)
theorem aen(a:Value)(H:Ss Tryz.prog a h K):aE Tryz.prog Lc [a].toArray h K:=
 bT (bA:=(bD (Tryz.f288.body.getD .skip) 0 [(1,[2])]).1) (c:=Tryz.f288.body.getD .skip) Tryz.func288 (by kernel_rfl) (by kernel_rfl) (by kernel_rfl) (of_decide_eq_true (by kernel_rfl))
  (Eq.mpr (by kernel_rfl) H)
def St(P:Program)(a b:Value)(h:aa)(K:KT):Prop:=aB nh a h λc d=>aB au b d λe f=>K (.func (.func FA) #[] #[c,e]) f
theorem aeo(a b:Value)(H:St Tryz.prog a b h K):aE Tryz.prog Ld [a,b].toArray h K:=
 aO Tryz.func289 (Eq.mpr (by kernel_rfl) H)
def Su(P:Program)(k d e:Value)(K:KT)(c:Value)(f:aa)(Z:KT):Prop:=ak .geq c (I 0) λl=>az l (aS P k [c].toArray f λm b=>az m (af b d λn=>aJ n λo=>aq 0 o λp=>af b p λq=>ah P jN [q,c] b λg r=>aX g 0 λs=>aX g 1 λE=>aB cC (.agg #[(I 0),(I 0),(I 0)]) r λi t=>aC 3 i s t λu j=>aq 0 i λv=>af j v λw=>aC 1 e w j λF a=>af a d λx=>aJ x λy=>aq 3 y λz=>af a z λA=>af a e λB=>aW 1 A B λC=>af a C λD=>Z D a) (K (.tuple #[]) b)) (K (.tuple #[]) f)
def Sv(P:Program)(c a b:Value)(h:aa)(K:KT):Prop:=af h a λd=>aJ d λe=>aq 3 e λf=>af h f λg=>af h b λi=>aW 1 g i λj=>af h j λk=>bK (σ:=bw [4]) (λx hh l=>Su P c a b K x.1 hh (λa0 hz=>l (a0,()) hz)) (k,()) h
theorem aep(a b d:Value)(H:Sv Tryz.prog a b d h K):aE Tryz.prog Fi [a,b,d].toArray h K:=
 bT (bA:=(bD (Tryz.f290.body.getD .skip) 0 [(1,[4])]).1) (c:=Tryz.f290.body.getD .skip) Tryz.func290 (by kernel_rfl) (by kernel_rfl) (by kernel_rfl) (of_decide_eq_true (by kernel_rfl))
  (Eq.mpr (by kernel_rfl) H)
end Go.Proofs.YthglofkkjoiepaaGreatDoor

set_option maxRecDepth 100000
namespace Go.Proofs.YthglofkkjoiepaaGreatDoor
open Go Go.Mh
variable{h:aa}{K:KT}
set_option maxHeartbeats 0
def Sw(P:Program)(a b:Value)(h:aa)(K:KT):Prop:=bx a λc=>ah P Lh [a,c,b] h λe d=>K (.tuple #[]) d
theorem aeq(a b:Value)(H:Sw Tryz.prog a b h K):aE Tryz.prog Fj [a,b].toArray h K:=
 aO Tryz.func291 (Eq.mpr (by kernel_rfl) H)
def Gx(P:Program)(a c b v3 d:Value)(h:aa)(K:KT):Prop:=aS P a [b,v3].toArray h λe f=>aS P a [b,d].toArray f λg i=>aS P c [e,g].toArray i λj k=>K j k
theorem Sx(a b c v3 d:Value)(H:Gx Tryz.prog a b c v3 d h K):aE Tryz.prog Fk [a,b,c,v3,d].toArray h K:=
 aO Tryz.func292 (Eq.mpr (by kernel_rfl) H)
def Sy(P:Program)(a b c:Value)(h:aa)(K:KT):Prop:=ah P Au [a,(.func (.func Li) #[a] #[]),b,c] h λd e=>K d e
theorem aer(a b c:Value)(H:Sy Tryz.prog a b c h K):aE Tryz.prog Fl [a,b,c].toArray h K:=
 aO Tryz.func293 (Eq.mpr (by kernel_rfl) H)
def Sz(P:Program)(e f:Value)(h:aa)(K:KT):Prop:=ah P nV [e] h λa g=>ah P nV [f] g λb i=>ah P rJ [b] i λj c=>bS .not j λk=>az k (K (I 0) c) (ah P rJ [a] c λl d=>bS .not l λm=>az m (K (I 72057594037927936) d) (ak .sub a b λn=>ah P nV [n] d λo p=>K o p))
theorem aes(a b:Value)(H:Sz Tryz.prog a b h K):aE Tryz.prog wS [a,b].toArray h K:=
 aO Tryz.func294 (Eq.mpr (by kernel_rfl) H)
def SA(P:Program)(a b c:Value)(h:aa)(K:KT):Prop:=ah P Au [a,(.func (.func Lj) #[a] #[]),b,c] h λd e=>K d e
theorem aet(a b c:Value)(H:SA Tryz.prog a b c h K):aE Tryz.prog Fm [a,b,c].toArray h K:=
 aO Tryz.func295 (Eq.mpr (by kernel_rfl) H)
def SB(P:Program)(a b:Value)(h:aa)(K:KT):Prop:=ah P wS [b,a] h λc d=>K c d
theorem aeu(a b:Value)(H:SB Tryz.prog a b h K):aE Tryz.prog Ar [a,b].toArray h K:=
 aO Tryz.func296 (Eq.mpr (by kernel_rfl) H)
def SC(P:Program)(d e f:Value)(K:KT)(a:Value)(b:aa)(Z:KT):Prop:=ak .lss a d λg=>az g (af b e λi=>aS P i [a].toArray b λj k=>aS P f [j].toArray k λl c=>bS .not l λm=>az m (K (.tuple #[]) c) (ak .add a (I 1) λn=>Z n c)) (K (.tuple #[]) b)
def SD(P:Program)(a b c:Value)(h:aa)(K:KT):Prop:=af h b λd=>ah P qe [d] h λe f=>bK (σ:=bw [7]) (λx hh g=>SC P e c a K x.1 hh (λa0 hz=>g (a0,()) hz)) ((I 0),()) f
theorem aev(a b d:Value)(H:SD Tryz.prog a b d h K):aE Tryz.prog Fo [a,b,d].toArray h K:=
 bT (bA:=(bD (Tryz.f297.body.getD .skip) 0 [(1,[7])]).1) (c:=Tryz.f297.body.getD .skip) Tryz.func297 (by kernel_rfl) (by kernel_rfl) (by kernel_rfl) (of_decide_eq_true (by kernel_rfl))
  (Eq.mpr (by kernel_rfl) H)
def SE(P:Program)(b:aa)(s2:Value)(L:Loop)(c:Value)(d:aa)(R:Exit->aa->Prop):Prop:=gY (b.size+1) L d λa=>af a s2 λe=>cz bY (bO [(I 0)] 1) [(0,1,c)] 1 a λf g=>cZ bY 1 8 [(I 0)] e f g λi j=>aC 1 s2 i j λu k=>R .normal k
def SF(P:Program)(s0 seq1:Value)(h:aa)(K:KT):Prop:=aB gj s0 h λs2 a=>gd P seq1 [7] (a.size+1) (a.push (.deferred (some []))) (λL x hh R=>SE P a s2 L x.1 hh R) (λb=>af b s2 λc=>cH (a.size:: []) b λd=>K c d) (λe=>cH (a.size:: []) e λf=>K (.slice none 0 0) f) []
theorem aew(s0 seq1:Value)(H:SF Tryz.prog s0 seq1 h K):aE Tryz.prog Lf [s0,seq1].toArray h K:=
 aO Tryz.func298 (Eq.mpr (by kernel_rfl) H)
def SG(P:Program)(a0:Value)(h:aa)(K:KT):Prop:=ah P nV [a0] h λa b=>ak .lss a (I 72057594037927936) λc=>K c b
theorem aex(a0:Value)(H:SG Tryz.prog a0 h K):aE Tryz.prog rJ [a0].toArray h K:=
 aO Tryz.func299 (Eq.mpr (by kernel_rfl) H)
def Gy(P:Program)(a0:Value)(h:aa)(K:KT):Prop:=ah P Fs [(I 0),(I 72057594037927936)] h λa b=>aS P a [a0].toArray b λc d=>K c d
theorem SH(a0:Value)(H:Gy Tryz.prog a0 h K):aE Tryz.prog nV [a0].toArray h K:=
 aO Tryz.func300 (Eq.mpr (by kernel_rfl) H)
def SJ(P:Program)(c:aa)(d:Value)(L:Loop)(k e:Value)(f:aa)(R:Exit->aa->Prop):Prop:=gY (c.size+1) L f λa=>af a d λg=>aS P g [e].toArray a λi b=>bS .not i λj=>az j (R .ret b) (R .normal b)
def SK(P:Program)(c d:Value)(h:aa)(K:KT):Prop:=aB fH c h λe b=>af b d λf=>ah P Lg [f] b λg a=>gd P g [7,8] (a.size+1) (a.push (.deferred (some []))) (λL x hh R=>SJ P a e L x.1 x.2.1 hh R) (λi=>cH (a.size:: []) i λj=>K (.tuple #[]) j) (λk=>cH (a.size:: []) k λl=>K (.tuple #[]) l) []
theorem aey(a b:Value)(H:SK Tryz.prog a b h K):aE Tryz.prog Fp [a,b].toArray h K:=
 aO Tryz.func301 (Eq.mpr (by kernel_rfl) H)
def SL(P:Program)(s0:Value)(h:aa)(K:KT):Prop:=aB bR s0 h λa b=>K (.func (.func FC) #[] #[a]) b
theorem aez(s0:Value)(H:SL Tryz.prog s0 h K):aE Tryz.prog Lg [s0].toArray h K:=
 aO Tryz.func302 (Eq.mpr (by kernel_rfl) H)
def Gz(P:Program)(e f c:Value)(K:KT)(d a:Value)(b:aa)(Z:Value->KT):Prop:=ak .lss a e λg=>az g (aW 1 f a λi=>af b i λj=>aS P c [j].toArray b λk l=>ak .add d k λm=>aS P c [m].toArray l λn o=>ak .add a (I 1) λp=>Z n p o) (K d b)
def GA(P:Program)(b a:Value)(h:aa)(K:KT):Prop:=bx a λc=>bK (σ:=bw [4,9]) (λx hh d=>Gz P c a b K x.1 x.2.1 hh (λa0 e hz=>d (a0,(e,())) hz)) ((I 0),((I 0),())) h
theorem SM(a b:Value)(H:GA Tryz.prog a b h K):aE Tryz.prog Fq [a,b].toArray h K:=
 bT (bA:=(bD (Tryz.f303.body.getD .skip) 0 [(3,[4,9])]).1) (c:=Tryz.f303.body.getD .skip) Tryz.func303 (by kernel_rfl) (by kernel_rfl) (by kernel_rfl) (of_decide_eq_true (by kernel_rfl))
  (Eq.mpr (by kernel_rfl) H)
def GB(P:Program)(a b:Value)(h:aa)(K:KT):Prop:=aB bY a h λc d=>aB bY b d λe f=>K (.func (.func Av) #[] #[c,e]) f
theorem SN(a b:Value)(H:GB Tryz.prog a b h K):aE Tryz.prog Fs [a,b].toArray h K:=
 aO Tryz.func304 (Eq.mpr (by kernel_rfl) H)
def aeA(P:Program)(a b:Value)(h:aa)(K:KT):Prop:=K a h
theorem aeB(a b:Value)(H:aeA Tryz.prog a b h K):aE Tryz.prog Ft [a,b].toArray h K:=
 aO Tryz.func305 (Eq.mpr (by kernel_rfl) H)
def aeC(P:Program)(b a:Value)(h:aa)(K:KT):Prop:=K a h
theorem aeD(a b:Value)(H:aeC Tryz.prog a b h K):aE Tryz.prog Fu [a,b].toArray h K:=
 aO Tryz.func306 (Eq.mpr (by kernel_rfl) H)
def SO(P:Program)(a b:Value)(h:aa)(K:KT):Prop:=ak .add a b λc=>K c h
theorem aeE(a b:Value)(H:SO Tryz.prog a b h K):aE Tryz.prog Fv [a,b].toArray h K:=
 aO Tryz.func307 (Eq.mpr (by kernel_rfl) H)
def SP(P:Program)(a b:Value)(h:aa)(K:KT):Prop:=ak .sub a b λc=>K c h
theorem aeF(a b:Value)(H:SP Tryz.prog a b h K):aE Tryz.prog Fw [a,b].toArray h K:=
 aO Tryz.func308 (Eq.mpr (by kernel_rfl) H)
def aeG(P:Program)(e c a g f:Value)(Z:Value->Value->Value->Value->KT)(d p q r s:Value)(i:aa):Prop:=az s (ah P ZR [e,c,a,g,f] i λt u=>Z t a d p q u) (ah P ZS [e,c,a,g,f] i λj k=>aX j 0 λb=>aX j 1 λl=>ak .sub b c λm=>ak .sub a b λn=>ak .quo r (I 8) λo=>ak .lss m n λv=>az v (ak .geq m o λw=>ah P wT [e,c,b,d,f] k λC x=>ak .add b (I 1) λy=>Z y a d w l x) (ak .geq n o λz=>ak .add b (I 1) λA=>ah P wT [e,A,a,d,f] k λD B=>Z c b d z l B))
def Bc(P:Program)(b c d e f:Value)(Z:Value->Value->Value->Value->KT)(g i j k:Value)(a:aa):Prop:=eW (σ:=bw [97]) (λJ=>ak .gtr b (I 0) λl=>az l (ak .sub b (I 1) λm=>aW 1 c m λn=>af a n λo=>aW 1 c d λp=>af a p λq=>aS P e [o,q].toArray a λr s=>ak .lss r (I 0) λt=>bS .not t λu=>J (u,()) s) (J ((.bool false),()) a)) (λx hh=>aeG P c b f d e Z g i j k x.1 hh)
def SQ(P:Program)(a b c d e f:Value)(K:KT)(Z:Value->Value->Value->Value->KT)(g i j m:Value)(k:aa):Prop:=az a (az b (ak .eql m (I 1) λn=>az n (ah P ZQ [c,d,e,f] k λo l=>az o (K (.tuple #[]) l) (Bc P d c j f e Z g a b i l)) (Bc P d c j f e Z g a b i k)) (Bc P d c j f e Z g a b i k)) (Bc P d c j f e Z g a b i k)
def SR(P:Program)(c a b d e f:Value)(K:KT)(Z:Value->Value->Value->Value->KT)(g i:Value)(n:aa):Prop:=ah P ZO [c,a,b,d] n λj k=>aX j 0 λl=>aX j 1 λm=>ak .eql m (I 2) λo=>az o (ah P ZP [c,a,b,d] k λt p=>ak .sub b (I 1) λq=>ak .sub l a λr=>ak .sub q r λs=>SQ P e f c a b d K Z i g s (I 1) p) (SQ P e f c a b d K Z i g l m k)
def SU(P:Program)(c d:Value)(K:KT)(a b f g j:Value)(e:aa)(Z:Value->Value->Value->Value->KT):Prop:=ak .sub b a λi=>ak .leq i (I 12) λk=>az k (ah P tT [c,a,b,d] e λr l=>K (.tuple #[]) l) (ak .eql f (I 0) λm=>az m (ah P ZM [c,a,b,d] e λs n=>K (.tuple #[]) n) (bS .not g λo=>az o (ah P ZN [c,a,b,d] e λt p=>ak .sub f (I 1) λq=>SR P c a b d g j K Z i q p) (SR P c a b d g j K Z i f e)))
def SV(P:Program)(b a c d e:Value)(h:aa)(K:KT):Prop:=bK (σ:=bw [1,2,3,10,11]) (λx hh f=>SU P b e K x.1 x.2.1 x.2.2.1 x.2.2.2.1 x.2.2.2.2.1 hh (λa0 a g a3 i hz=>f (a0,(a,(g,(a3,(i,()))))) hz)) (a,(c,(d,((.bool true),((.bool true),()))))) h
theorem aeH(a b d e f:Value)(H:SV Tryz.prog a b d e f h K):aE Tryz.prog wT [a,b,d,e,f].toArray h K:=
 bT (bA:=(bD (Tryz.f309.body.getD .skip) 0 [(2,[1,2,3,10,11]),(22,[97])]).1) (c:=Tryz.f309.body.getD .skip) Tryz.func309 (by kernel_rfl) (by kernel_rfl) (by kernel_rfl) (of_decide_eq_true (by kernel_rfl))
  (Eq.mpr (by kernel_rfl) H)
def SX(P:Program)(a:Value)(h:aa)(K:KT):Prop:=ah P Ll [a] h λb c=>K b c
theorem aeI(a:Value)(H:SX Tryz.prog a h K):aE Tryz.prog Fx [a].toArray h K:=
 aO Tryz.func310 (Eq.mpr (by kernel_rfl) H)
def Bd(P:Program)(a:Value)(Z:KT)(b:aa):Prop:=ak .add a (I 1) λc=>Z c b
def SY(P:Program)(e f g:Value)(K:KT)(a:Value)(b:aa)(Z:KT):Prop:=ak .lss a e λi=>az i (af b f λj=>aS P j [a].toArray b λk c=>az k (aS P g [a].toArray c λl d=>bS .not l λm=>az m (K (.tuple #[]) d) (Bd P a Z d)) (Bd P a Z c)) (K (.tuple #[]) b)
def SZ(P:Program)(a b c:Value)(h:aa)(K:KT):Prop:=af h b λd=>bK (σ:=bw [6]) (λx hh e=>SY P d c a K x.1 hh (λa0 hz=>e (a0,()) hz)) ((I 0),()) h
theorem aeJ(a b d:Value)(H:SZ Tryz.prog a b d h K):aE Tryz.prog Fy [a,b,d].toArray h K:=
 bT (bA:=(bD (Tryz.f311.body.getD .skip) 0 [(1,[6])]).1) (c:=Tryz.f311.body.getD .skip) Tryz.func311 (by kernel_rfl) (by kernel_rfl) (by kernel_rfl) (of_decide_eq_true (by kernel_rfl))
  (Eq.mpr (by kernel_rfl) H)
def S3(P:Program)(g i d:Value)(h:aa)(K:KT):Prop:=af h i λj=>ah P jN [j,g] h λe k=>aX e 0 λl=>aX e 1 λF=>aB cC (.agg #[(I 0),(I 0),(I 0)]) k λc m=>aC 3 c l m λu a=>aq 0 d λn=>af a n λo=>aq 1 c λp=>af a p λq=>aW 1 o q λr=>af a r λs=>aq 2 c λt=>af a t λv=>ah P Fz [s,v] a λf w=>ah P rJ [f] w λx b=>az x (aq 0 d λy=>af b y λz=>aq 0 c λA=>af b A λB=>aW 1 z B λC=>af b C λD=>ak .eql f D λE=>K E b) (K (.bool false) b)
theorem aeK(a b c:Value)(H:S3 Tryz.prog a b c h K):aE Tryz.prog As [a,b,c].toArray h K:=
 aO Tryz.func312 (Eq.mpr (by kernel_rfl) H)
def S4(P:Program)(a0 a:Value)(h:aa)(K:KT):Prop:=cz bY (bO [(I 0)] 2) [(0,1,a0),(1,1,a)] 2 h λb c=>ah P Fq [(.func (.func nV) #[] #[]),b] c λd e=>K d e
theorem aeL(a0 a:Value)(H:S4 Tryz.prog a0 a h K):aE Tryz.prog Fz [a0,a].toArray h K:=
 aO Tryz.func313 (Eq.mpr (by kernel_rfl) H)
def Be(P:Program)(a:Value)(Z:KT)(b:aa):Prop:=ak .add a (I 1) λc=>Z c b
def S5(P:Program)(e f g i:Value)(K:KT)(a:Value)(b:aa)(Z:KT):Prop:=ak .lss a e λj=>az j (af b f λk=>af b g λl=>ah P FB [k,l,a] b λm c=>az m (aS P i [a].toArray c λn d=>bS .not n λo=>az o (K (.tuple #[]) d) (Be P a Z d)) (Be P a Z c)) (K (.tuple #[]) b)
def S6(P:Program)(b a c:Value)(h:aa)(K:KT):Prop:=af h a λd=>ah P tJ [d] h λe f=>bK (σ:=bw [7]) (λx hh g=>S5 P e a c b K x.1 hh (λa0 hz=>g (a0,()) hz)) ((I 0),()) f
theorem aeM(a b d:Value)(H:S6 Tryz.prog a b d h K):aE Tryz.prog FA [a,b,d].toArray h K:=
 bT (bA:=(bD (Tryz.f314.body.getD .skip) 0 [(1,[7])]).1) (c:=Tryz.f314.body.getD .skip) Tryz.func314 (by kernel_rfl) (by kernel_rfl) (by kernel_rfl) (of_decide_eq_true (by kernel_rfl))
  (Eq.mpr (by kernel_rfl) H)
def S7(P:Program)(a b c:Value)(h:aa)(K:KT):Prop:=ah P zQ [a,b,c,(.func (.func Lm) #[] #[])] h λd e=>K d e
theorem aeN(a b c:Value)(H:S7 Tryz.prog a b c h K):aE Tryz.prog FB [a,b,c].toArray h K:=
 aO Tryz.func315 (Eq.mpr (by kernel_rfl) H)
def S8(P:Program)(a:Value)(b:KT)(c:aa):Prop:=ak .mul a (I 2) λd=>b d c
def aeO(P:Program)(n1 a e f:Value)(g:KT)(b c:Value)(d:aa)(j:Value->KT):Prop:=ak .leq c n1 λk=>az k (ak .add b a λl=>ah P Ln [e,b,l,c,f] d λr m=>ak .mul (I 2) a λn=>ak .add c n λo=>j c o m) (ak .add b a λi=>ak .lss i n1 λp=>az p (ah P Ln [e,b,i,n1,f] d λs q=>S8 P a g q) (S8 P a g d))
def S9(P:Program)(n1 c d:Value)(K:KT)(a:Value)(b:aa)(e:KT):Prop:=ak .lss a n1 λf=>az f (ak .mul (I 2) a λg=>bK (σ:=bw [7,8]) (λx hh i=>aeO P n1 a c d e x.1 x.2.1 hh (λa0 j hz=>i (a0,(j,())) hz)) ((I 0),(g,())) b) (K (.tuple #[]) b)
def Ta(P:Program)(n1 b c:Value)(K:KT)(d a:Value)(e:aa)(Z:Value->KT):Prop:=ak .leq a n1 λf=>az f (ah P tT [b,d,a,c] e λl g=>ak .add a (I 20) λi=>Z a i g) (ah P tT [b,d,n1,c] e λm j=>bK (σ:=bw [6]) (λx hh k=>S9 P n1 b c K x.1 hh (λa0 hz=>k (a0,()) hz)) ((I 20),()) j)
def Tb(P:Program)(a n1 b:Value)(h:aa)(K:KT):Prop:=bK (σ:=bw [7,8]) (λx hh c=>Ta P n1 a b K x.1 x.2.1 hh (λa0 d hz=>c (a0,(d,())) hz)) ((I 0),((I 20),())) h
theorem aeP(a n1 b:Value)(H:Tb Tryz.prog a n1 b h K):aE Tryz.prog Lh [a,n1,b].toArray h K:=
 bT (bA:=(bD (Tryz.f316.body.getD .skip) 0 [(3,[7,8]),(9,[6]),(14,[7,8])]).1) (c:=Tryz.f316.body.getD .skip) Tryz.func316 (by kernel_rfl) (by kernel_rfl) (by kernel_rfl) (of_decide_eq_true (by kernel_rfl))
  (Eq.mpr (by kernel_rfl) H)
def xq(P:Program)(K:KT)(a:aa):Prop:=K (I 72057594037927936) a
def Td(P:Program)(a d b v3:Value)(h:aa)(K:KT):Prop:=bL false .ptr a (.pointer none) λe=>az e (xq P K h) (ak .lss b (I 0) λf=>az f (xq P K h) (aJ a λg=>aq 1 g λi=>af h i λj=>bx j λk=>ak .geq b k λl=>az l (xq P K h) (ak .lss v3 (I 0) λm=>az m (xq P K h) (aJ a λn=>aq 0 n λo=>af h o λp=>ak .geq v3 p λq=>az q (xq P K h) (aS P d [].toArray h λr c=>aW 1 r b λs=>af c s λt=>aW 1 t v3 λu=>af c u λv=>K v c)))))
theorem aeQ(a b c v3:Value)(H:Td Tryz.prog a b c v3 h K):aE Tryz.prog Au [a,b,c,v3].toArray h K:=
 aO Tryz.func317 (Eq.mpr (by kernel_rfl) H)
end Go.Proofs.YthglofkkjoiepaaGreatDoor

set_option maxRecDepth 100000
namespace Go.Proofs.YthglofkkjoiepaaGreatDoor
open Go Go.Mh
variable{h:aa}{K:KT}
set_option maxHeartbeats 0
def Te(P:Program)(a:Value)(h:aa)(K:KT):Prop:=aJ a λb=>aq 2 b λc=>af h c λd=>K d h
theorem aeR(a:Value)(H:Te Tryz.prog a h K):aE Tryz.prog Li [a].toArray h K:=
 aO Tryz.func318 (Eq.mpr (by kernel_rfl) H)
def Tf(P:Program)(a:Value)(h:aa)(K:KT):Prop:=aJ a λb=>aq 3 b λc=>af h c λd=>K d h
theorem aeS(a:Value)(H:Tf Tryz.prog a h K):aE Tryz.prog Lj [a].toArray h K:=
 aO Tryz.func319 (Eq.mpr (by kernel_rfl) H)
def Tg(P:Program)(d e:Value)(K:KT)(a:Value)(b:aa)(Z:KT):Prop:=ak .geq a (I 0) λf=>az f (af b d λg=>aW 1 g a λi=>af b i λj=>aS P e [a,j].toArray b λk c=>bS .not k λl=>az l (K (.tuple #[]) c) (ak .sub a (I 1) λm=>Z m c)) (K (.tuple #[]) b)
def Th(P:Program)(b a:Value)(h:aa)(K:KT):Prop:=af h a λc=>bx c λd=>ak .sub d (I 1) λe=>bK (σ:=bw [3]) (λx hh f=>Tg P a b K x.1 hh (λa0 hz=>f (a0,()) hz)) (e,()) h
theorem aeT(a b:Value)(H:Th Tryz.prog a b h K):aE Tryz.prog FC [a,b].toArray h K:=
 bT (bA:=(bD (Tryz.f320.body.getD .skip) 0 [(1,[3])]).1) (c:=Tryz.f320.body.getD .skip) Tryz.func320 (by kernel_rfl) (by kernel_rfl) (by kernel_rfl) (of_decide_eq_true (by kernel_rfl))
  (Eq.mpr (by kernel_rfl) H)
def GC(P:Program)(a b c:Value)(h:aa)(K:KT):Prop:=af h b λd=>iH a d λe=>af h c λf=>jD e f λg=>K g h
theorem Ti(a b c:Value)(H:GC Tryz.prog a b c h K):aE Tryz.prog Av [a,b,c].toArray h K:=
 aO Tryz.func321 (Eq.mpr (by kernel_rfl) H)
def GD(P:Program)(a b:Value)(d:KT)(e:Value)(Z:KT)(f:Value)(c:aa):Prop:=az f (ak .sub a (I 1) λg=>ak .sub a (I 1) λi=>aW 1 b i λj=>af c j λk=>aW 1 b a λl=>af c l λm=>aW 1 b a λn=>aC 1 n k c λu o=>aW 1 b g λp=>aC 1 p m o λt q=>ak .sub a (I 1) λr=>d r q) (ak .add e (I 1) λs=>Z s c)
def GF(P:Program)(d c e f:Value)(Z:KT)(a:Value)(b:aa)(g:KT):Prop:=eW (σ:=bw [34]) (λJ=>ak .gtr a d λi=>az i (aW 1 c a λj=>af b j λk=>ak .sub a (I 1) λl=>aW 1 c l λm=>af b m λn=>aS P e [k,n].toArray b λo p=>ak .lss o (I 0) λq=>J (q,()) p) (J ((.bool false),()) b)) (λx hh=>GD P a c g f Z x.1 hh)
def GG(P:Program)(c d e f:Value)(K:KT)(a:Value)(b:aa)(Z:KT):Prop:=ak .lss a c λg=>az g (bK (σ:=bw [9]) (λx hh i=>GF P d e f a Z x.1 hh (λa0 hz=>i (a0,()) hz)) (a,()) b) (K (.tuple #[]) b)
def GH(P:Program)(b a c d:Value)(h:aa)(K:KT):Prop:=ak .add a (I 1) λe=>bK (σ:=bw [8]) (λx hh f=>GG P c a b d K x.1 hh (λa0 hz=>f (a0,()) hz)) (e,()) h
theorem Tj(a b d e:Value)(H:GH Tryz.prog a b d e h K):aE Tryz.prog tT [a,b,d,e].toArray h K:=
 bT (bA:=(bD (Tryz.f322.body.getD .skip) 0 [(1,[8]),(6,[9]),(8,[34])]).1) (c:=Tryz.f322.body.getD .skip) Tryz.func322 (by kernel_rfl) (by kernel_rfl) (by kernel_rfl) (of_decide_eq_true (by kernel_rfl))
  (Eq.mpr (by kernel_rfl) H)
def GJ(P:Program)(K:KT)(a b:Value)(c:aa):Prop:=fR .u8 a λd=>qI (.string ⟨#[0,1,2,2,3,3,3,3,4,4,4,4,4,4,4,4,5,5,5,5,5,5,5,5,5,5,5,5,5,5,5,5,6,6,6,6,6,6,6,6,6,6,6,6,6,6,6,6,6,6,6,6,6,6,6,6,6,6,6,6,6,6,6,6,7,7,7,7,7,7,7,7,7,7,7,7,7,7,7,7,7,7,7,7,7,7,7,7,7,7,7,7,7,7,7,7,7,7,7,7,7,7,7,7,7,7,7,7,7,7,7,7,7,7,7,7,7,7,7,7,7,7,7,7,7,7,7,7,8,8,8,8,8,8,8,8,8,8,8,8,8,8,8,8,8,8,8,8,8,8,8,8,8,8,8,8,8,8,8,8,8,8,8,8,8,8,8,8,8,8,8,8,8,8,8,8,8,8,8,8,8,8,8,8,8,8,8,8,8,8,8,8,8,8,8,8,8,8,8,8,8,8,8,8,8,8,8,8,8,8,8,8,8,8,8,8,8,8,8,8,8,8,8,8,8,8,8,8,8,8,8,8,8,8,8,8,8,8,8,8,8,8,8,8,8,8,8,8,8,8,8,8,8,8,8,8]⟩) d λe=>fR .i64 e λf=>ak .add b f λg=>K g c
def GK(P:Program)(K:KT)(a b:Value)(c:aa):Prop:=ak .geq a (.int .u64 256) λd=>az d (ak .shr a (.int .u64 8) λe=>ak .add b (I 8) λf=>GJ P K e f c) (GJ P K a b c)
def GL(P:Program)(K:KT)(a b:Value)(c:aa):Prop:=ak .geq a (.int .u64 65536) λd=>az d (ak .shr a (.int .u64 16) λe=>ak .add b (I 16) λf=>GK P K e f c) (GK P K a b c)
def Tk(P:Program)(a:Value)(h:aa)(K:KT):Prop:=ak .geq a (.int .u64 4294967296) λb=>az b (ak .shr a (.int .u64 32) λc=>GL P K c (I 32) h) (GL P K a (I 0) h)
theorem aeU(a:Value)(H:Tk Tryz.prog a h K):aE Tryz.prog Ll [a].toArray h K:=
 aO Tryz.func331 (Eq.mpr (by kernel_rfl) H)
def Tl(P:Program)(a b:Value)(h:aa)(K:KT):Prop:=aJ a λc=>af h c λd=>ak .and d b λe=>ak .neq e (.int .u8 0) λf=>K f h
theorem aeV(a b:Value)(H:Tl Tryz.prog a b h K):aE Tryz.prog Lm [a,b].toArray h K:=
 aO Tryz.func332 (Eq.mpr (by kernel_rfl) H)
end Go.Proofs.YthglofkkjoiepaaGreatDoor


