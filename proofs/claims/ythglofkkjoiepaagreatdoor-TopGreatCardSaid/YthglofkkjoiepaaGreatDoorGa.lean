/- Texts of the proofs of seat YthglofkkjoiepaaGreatDoor, joined: Ids, Gen1, Gen2, Gen3, Gen4, Gen5, Gen6, Gen7, Gen8, Gen9, Gen10, Gen11, Gen12. They have no conditions of their own. -/
import Derived.Test.YthglofkkjoiepaaGreatDoorMc
import Derived.Test.YthglofkkjoiepaaGreatDoorChecked
import Derived.KernelRfl
set_option linter.unusedVariables false
set_option linter.unusedSimpArgs false
set_option linter.unusedSectionVars false

namespace Go.Proofs.YthglofkkjoiepaaGreatDoor
abbrev Kx:Nat:=3
abbrev Dl:Nat:=4
abbrev Dm:Nat:=5
abbrev zn:Nat:=6
abbrev zo:Nat:=7
abbrev Dn:Nat:=8
abbrev lC:Nat:=9
abbrev zp:Nat:=10
abbrev Dp:Nat:=11
abbrev zq:Nat:=12
abbrev Dq:Nat:=13
abbrev Dr:Nat:=14
abbrev ZL:Nat:=15
abbrev Ds:Nat:=16
abbrev Dt:Nat:=17
abbrev Du:Nat:=18
abbrev zu:Nat:=19
abbrev zv:Nat:=20
abbrev Dv:Nat:=21
abbrev zw:Nat:=22
abbrev vW:Nat:=23
abbrev zx:Nat:=24
abbrev zy:Nat:=25
abbrev vX:Nat:=26
abbrev rz:Nat:=27
abbrev Dw:Nat:=28
abbrev qa:Nat:=29
abbrev Kz:Nat:=30
abbrev Dx:Nat:=31
abbrev Dy:Nat:=32
abbrev Dz:Nat:=33
abbrev zz:Nat:=34
abbrev zA:Nat:=35
abbrev ct:Nat:=36
abbrev qc:Nat:=37
abbrev zB:Nat:=38
abbrev vY:Nat:=39
abbrev zC:Nat:=40
abbrev jb:Nat:=41
abbrev rA:Nat:=42
abbrev DA:Nat:=43
abbrev DB:Nat:=44
abbrev zD:Nat:=46
abbrev DC:Nat:=47
abbrev DD:Nat:=48
abbrev zE:Nat:=49
abbrev DE:Nat:=50
abbrev DF:Nat:=51
abbrev vZ:Nat:=52
abbrev wg:Nat:=53
abbrev wh:Nat:=54
abbrev wj:Nat:=55
abbrev DG:Nat:=56
abbrev nS:Nat:=57
abbrev zF:Nat:=58
abbrev DH:Nat:=59
abbrev tu:Nat:=60
abbrev qd:Nat:=61
abbrev rB:Nat:=62
abbrev DI:Nat:=63
abbrev DJ:Nat:=64
abbrev KA:Nat:=65
abbrev KB:Nat:=66
abbrev wk:Nat:=67
abbrev tw:Nat:=68
abbrev wq:Nat:=69
abbrev zG:Nat:=70
abbrev DK:Nat:=71
abbrev wu:Nat:=72
abbrev kH:Nat:=73
abbrev KC:Nat:=74
abbrev DL:Nat:=75
abbrev cP:Nat:=76
abbrev zH:Nat:=77
abbrev zI:Nat:=78
abbrev oP:Nat:=79
abbrev oQ:Nat:=80
abbrev KD:Nat:=81
abbrev DM:Nat:=82
abbrev zJ:Nat:=83
abbrev KF:Nat:=84
abbrev DN:Nat:=85
abbrev DO:Nat:=86
abbrev zK:Nat:=87
abbrev KG:Nat:=88
abbrev KI:Nat:=89
abbrev DP:Nat:=90
abbrev DQ:Nat:=91
abbrev KJ:Nat:=92
abbrev qe:Nat:=93
abbrev qf:Nat:=94
abbrev zL:Nat:=95
abbrev tA:Nat:=96
abbrev DR:Nat:=97
abbrev DT:Nat:=98
abbrev kI:Nat:=99
abbrev nT:Nat:=100
abbrev DU:Nat:=101
abbrev DV:Nat:=102
abbrev DW:Nat:=103
abbrev DX:Nat:=104
abbrev tB:Nat:=105
abbrev zM:Nat:=106
abbrev tC:Nat:=107
abbrev DY:Nat:=108
abbrev tD:Nat:=109
abbrev KL:Nat:=110
abbrev tE:Nat:=111
abbrev tF:Nat:=112
abbrev KN:Nat:=113
abbrev KO:Nat:=118
abbrev zN:Nat:=119
abbrev KQ:Nat:=120
abbrev DZ:Nat:=121
abbrev rC:Nat:=122
abbrev D0:Nat:=123
abbrev KR:Nat:=124
abbrev tG:Nat:=125
abbrev D4:Nat:=126
abbrev D5:Nat:=127
abbrev KS:Nat:=128
abbrev D6:Nat:=129
abbrev D7:Nat:=130
abbrev zO:Nat:=131
abbrev jc:Nat:=132
abbrev wz:Nat:=133
abbrev D8:Nat:=134
abbrev D9:Nat:=135
abbrev zP:Nat:=136
abbrev KU:Nat:=137
abbrev Ea:Nat:=138
abbrev Eb:Nat:=139
abbrev Ec:Nat:=140
abbrev KV:Nat:=141
abbrev zQ:Nat:=142
abbrev KW:Nat:=143
abbrev wA:Nat:=144
abbrev zR:Nat:=145
abbrev tH:Nat:=146
abbrev wB:Nat:=147
abbrev Ed:Nat:=148
abbrev Ee:Nat:=149
abbrev jN:Nat:=150
abbrev tI:Nat:=151
abbrev qg:Nat:=152
abbrev qh:Nat:=153
abbrev Ef:Nat:=154
abbrev Eg:Nat:=155
abbrev Eh:Nat:=156
abbrev wC:Nat:=157
abbrev tJ:Nat:=158
abbrev KX:Nat:=159
abbrev zS:Nat:=160
abbrev Ei:Nat:=161
abbrev tK:Nat:=162
abbrev rD:Nat:=163
abbrev wD:Nat:=164
abbrev zT:Nat:=165
abbrev Ej:Nat:=166
abbrev Ek:Nat:=167
abbrev El:Nat:=168
abbrev Em:Nat:=169
abbrev En:Nat:=170
abbrev wE:Nat:=171
abbrev Eo:Nat:=172
abbrev Ep:Nat:=173
abbrev rE:Nat:=174
abbrev wF:Nat:=175
abbrev zU:Nat:=176
abbrev wG:Nat:=177
abbrev zV:Nat:=178
abbrev Es:Nat:=179
abbrev wH:Nat:=180
abbrev wJ:Nat:=181
abbrev tL:Nat:=182
abbrev Et:Nat:=183
abbrev tM:Nat:=184
abbrev zW:Nat:=185
abbrev nU:Nat:=186
abbrev zX:Nat:=187
abbrev Eu:Nat:=188
abbrev Ew:Nat:=189
abbrev zY:Nat:=193
abbrev Ey:Nat:=194
abbrev zZ:Nat:=195
abbrev Ez:Nat:=196
abbrev EA:Nat:=197
abbrev EB:Nat:=198
abbrev wK:Nat:=199
abbrev z7:Nat:=200
abbrev EC:Nat:=201
abbrev KY:Nat:=202
abbrev ED:Nat:=203
abbrev z8:Nat:=204
abbrev tN:Nat:=205
abbrev Aa:Nat:=206
abbrev EE:Nat:=207
abbrev Ab:Nat:=208
abbrev EF:Nat:=209
abbrev EG:Nat:=210
abbrev Ac:Nat:=211
abbrev EH:Nat:=212
abbrev EI:Nat:=213
abbrev EJ:Nat:=214
abbrev Ad:Nat:=215
abbrev EK:Nat:=216
abbrev EL:Nat:=217
abbrev wL:Nat:=218
abbrev tO:Nat:=219
abbrev wM:Nat:=220
abbrev rF:Nat:=221
abbrev KZ:Nat:=222
abbrev Ae:Nat:=223
abbrev EM:Nat:=224
abbrev K0:Nat:=226
abbrev tP:Nat:=227
abbrev K3:Nat:=228
abbrev EN:Nat:=229
abbrev EO:Nat:=230
abbrev EP:Nat:=231
abbrev ER:Nat:=232
abbrev ES:Nat:=233
abbrev Af:Nat:=234
abbrev ET:Nat:=235
abbrev EU:Nat:=236
abbrev EV:Nat:=237
abbrev wN:Nat:=238
abbrev Ag:Nat:=239
abbrev Ah:Nat:=240
abbrev K4:Nat:=241
abbrev EW:Nat:=242
abbrev Ai:Nat:=243
abbrev Aj:Nat:=244
abbrev EX:Nat:=245
abbrev tQ:Nat:=246
abbrev K5:Nat:=247
abbrev EY:Nat:=248
abbrev EZ:Nat:=249
abbrev rG:Nat:=250
abbrev E0:Nat:=251
abbrev Ak:Nat:=252
abbrev Al:Nat:=253
abbrev K6:Nat:=254
abbrev K7:Nat:=255
abbrev wO:Nat:=256
abbrev rH:Nat:=257
abbrev E1:Nat:=258
abbrev wP:Nat:=259
abbrev wQ:Nat:=260
abbrev rI:Nat:=261
abbrev E2:Nat:=262
abbrev E3:Nat:=263
abbrev E4:Nat:=264
abbrev E5:Nat:=265
abbrev E6:Nat:=266
abbrev wR:Nat:=267
abbrev E7:Nat:=268
abbrev E8:Nat:=269
abbrev K8:Nat:=270
abbrev E9:Nat:=271
abbrev Fa:Nat:=272
abbrev tR:Nat:=273
abbrev K9:Nat:=274
abbrev Am:Nat:=275
abbrev An:Nat:=276
abbrev Fb:Nat:=277
abbrev Fc:Nat:=278
abbrev tS:Nat:=279
abbrev Ao:Nat:=280
abbrev Ap:Nat:=281
abbrev Ff:Nat:=282
abbrev Fg:Nat:=283
abbrev Fh:Nat:=284
abbrev La:Nat:=285
abbrev Lb:Nat:=286
abbrev Aq:Nat:=287
abbrev Lc:Nat:=288
abbrev Ld:Nat:=289
abbrev Fi:Nat:=290
abbrev Fj:Nat:=291
abbrev Fk:Nat:=292
abbrev Fl:Nat:=293
abbrev wS:Nat:=294
abbrev Fm:Nat:=295
abbrev Ar:Nat:=296
abbrev Fo:Nat:=297
abbrev Lf:Nat:=298
abbrev rJ:Nat:=299
abbrev nV:Nat:=300
abbrev Fp:Nat:=301
abbrev Lg:Nat:=302
abbrev Fq:Nat:=303
abbrev Fs:Nat:=304
abbrev Ft:Nat:=305
abbrev Fu:Nat:=306
abbrev Fv:Nat:=307
abbrev Fw:Nat:=308
abbrev wT:Nat:=309
abbrev Fx:Nat:=310
abbrev Fy:Nat:=311
abbrev As:Nat:=312
abbrev Fz:Nat:=313
abbrev FA:Nat:=314
abbrev FB:Nat:=315
abbrev Lh:Nat:=316
abbrev Au:Nat:=317
abbrev Li:Nat:=318
abbrev Lj:Nat:=319
abbrev FC:Nat:=320
abbrev Av:Nat:=321
abbrev tT:Nat:=322
abbrev ZM:Nat:=323
abbrev ZN:Nat:=324
abbrev ZO:Nat:=325
abbrev ZP:Nat:=326
abbrev ZQ:Nat:=327
abbrev ZR:Nat:=328
abbrev ZS:Nat:=329
abbrev Ll:Nat:=331
abbrev Lm:Nat:=332
abbrev Ln:Nat:=333
abbrev bY:Nat:=2
abbrev au:Nat:=3
abbrev eA:Nat:=4
abbrev ki:Nat:=5
abbrev kJ:Nat:=25
abbrev tU:Nat:=26
abbrev gj:Nat:=28
abbrev cN:Nat:=31
abbrev cC:Nat:=34
abbrev cq:Nat:=35
abbrev ZT:Nat:=37
abbrev tV:Nat:=40
abbrev fG:Nat:=44
abbrev bR:Nat:=46
abbrev qi:Nat:=48
abbrev tW:Nat:=49
abbrev eG:Nat:=53
abbrev eB:Nat:=57
abbrev nW:Nat:=58
abbrev ng:Nat:=63
abbrev wU:Nat:=66
abbrev FD:Nat:=68
abbrev ZU:Nat:=70
abbrev eY:Nat:=74
abbrev mw:Nat:=75
abbrev nh:Nat:=76
abbrev mA:Nat:=78
abbrev Aw:Nat:=93
abbrev eO:Nat:=102
abbrev fH:Nat:=107
abbrev oR:Nat:=111
abbrev ZV:Nat:=112
abbrev wV:Nat:=124
abbrev Lo:Nat:=131
abbrev rK:Nat:=133
abbrev FE:Nat:=139
abbrev lD:Nat:=141
abbrev qj:Nat:=145
abbrev FG:Nat:=152
abbrev rL:Nat:=157
abbrev Ax:Nat:=159
abbrev wW:Nat:=170
abbrev Lp:Nat:=172
abbrev ZW:Nat:=174
abbrev FH:Nat:=175
abbrev tX:Nat:=185
abbrev rM:Nat:=187
abbrev FI:Nat:=192
abbrev lE:Nat:=196
abbrev tY:Nat:=214
abbrev gE:Nat:=221
abbrev fV:Nat:=226
abbrev lF:Nat:=228
abbrev ni:Nat:=230
abbrev jO:Nat:=233
abbrev oT:Nat:=236
abbrev Lq:Nat:=245
abbrev nj:Nat:=250
abbrev wX:Nat:=260
abbrev Ay:Nat:=262
abbrev dJ:Nat:=270
abbrev iM:Nat:=274
abbrev wY:Nat:=277
abbrev tZ:Nat:=281
abbrev ua:Nat:=282
abbrev iD:Nat:=285
abbrev gF:Nat:=296
abbrev uc:Nat:=302
abbrev Az:Nat:=321
abbrev gl:Nat:=324
abbrev gR:Nat:=327
abbrev fI:Nat:=333
abbrev kK:Nat:=334
abbrev gG:Nat:=337
abbrev nX:Nat:=356
abbrev qk:Nat:=361
abbrev cD:Nat:=365
abbrev Lr:Nat:=372
abbrev wZ:Nat:=382
abbrev ZX:Nat:=386
open Go.Mh in
theorem aO{f:FuncId}{fn:Func}{args:List Value}{h:aa}{K:KT}(hf:Tryz.prog.funcs[f]? =some fn)(hc:compile Tryz.prog fn.ntmps false (fn.body.getD .skip) (bD (fn.body.getD .skip) 0 []).1 (jJ args 0) [] h (vC Tryz.prog fn.results.toList K))(hb:fn.body=some (fn.body.getD .skip):=by kernel_rfl)(a:iS Tryz.prog f=true:=by kernel_rfl)(hm:Tryz.prog.follows .mixedOrders=true:=by kernel_rfl)(hlen:args.length<=fn.ntmps:=by exact of_decide_eq_true (by kernel_rfl)):aE Tryz.prog f args.toArray h K:=bT hf hb a hm hlen hc
end Go.Proofs.YthglofkkjoiepaaGreatDoor

set_option maxRecDepth 100000
namespace Go.Proofs.YthglofkkjoiepaaGreatDoor
open Go Go.Mh
variable{h:aa}{K:KT}
set_option maxHeartbeats 0
def Ls(P:Program)(K:KT)(a:aa):Prop:=K (.bool false) a
def Lt(P:Program)(a e f g i:Value)(K:KT)(b:Value)(c:aa)(j:KT):Prop:=bx a λk=>ak .lss b k λl=>az l (aW 1 a b λm=>af c m λn=>aP [(I 0),(I 0),(I 0),(I 0)] [(0,1,n),(1,1,e),(2,1,f),(3,1,(I 2))] λo=>ah P Dp [g,o,i] c λp d=>bS .not p λq=>az q (K (.bool false) d) (ak .add b (I 1) λr=>j r d)) (bx a λs=>ak .geq s (I 2) λt=>K t c)
def AA(P:Program)(a b c:Value)(K:KT)(d:Value)(e:aa):Prop:=ah P zp [a] e λf g=>bK (σ:=bw [17]) (λx hh i=>Lt P f b c a d K x.1 hh (λa0 hz=>i (a0,()) hz)) ((I 0),()) g
def Lu(P:Program)(a k t:Value)(K:KT)(l e:Value)(c:aa)(Z:KT):Prop:=aq 3 a λu=>af c u λv=>bx v λw=>ak .lss e w λx=>az x (aq 3 a λy=>af c y λz=>aW 3 z e λA=>aq 2 A λB=>aC 1 B (I 2147483647) c λaG m=>aq 3 k λC=>af m C λD=>aW 3 D e λE=>aq 2 E λF=>aC 1 F (I 1) m λaH G=>ak .add e (I 1) λH=>Z H G) (aZ 4 c k λJ=>ah P zn [J] c λn f=>aX n 0 λL=>aX n 1 λM=>aZ 4 f a λo=>aZ 6 f t λN=>ah P Dn [N] f λO p=>(aZ 4 p a λQ=>Q=o)/\(ah P zo [o,O] p λq b=>aX q 0 λr=>aX q 1 λR=>bL true .iface M .nilIface λS=>az S (Ls P K b) (bL true .iface R .nilIface λT=>az T (Ls P K b) (bV 1 2 l (I 0) λU=>af b U λV=>fR .i64 V λW=>aq 0 a λX=>af b X λY=>ak .rem W Y λg=>bV 1 2 l (I 1) λag=>af b ag λai=>fR .i64 ai λaj=>aq 0 a λan=>af b an λau=>ak .rem aj au λi=>ah P lC [L,g] b λav d=>lV 0 av λs=>bx s λax=>aq 0 a λay=>af d ay λaA=>ak .neq ax aA λaB=>az aB (K (.bool false) d) (aW 1 s i λaD=>af d aD λj=>ak .lss j (I 72057594037927936) λaE=>az aE (ak .mul j (I 2147483647) λaF=>AA P r g i K aF d) (AA P r g i K j d))))))
def Lv(P:Program)(i j:Value)(h:aa)(K:KT):Prop:=aB kJ i h λd k=>aB tU j k λl m=>ah P Dl [] m λn b=>bS .not n λo=>az o (K (.bool false) b) (aZ 6 b d λp=>ah P Dm [p] b λq r=>aB cN (.agg #[(I 0),(.slice none 0 0),(.slice none 0 0),(.slice none 0 0)]) r λa s=>aC 4 a q s λu e=>aZ 4 e a λt=>aB cN (.agg #[(I 0),(.slice none 0 0),(.slice none 0 0),(.slice none 0 0)]) e λc v=>aC 4 c t v λQ w=>cz cC (bO [(I 0),(I 0),(I 0)] 0) [] 0 w λy f=>aq 3 a λz=>af f z λA=>cZ cC 3 24 [(I 0),(I 0),(I 0)] y A f λB C=>aq 3 a λD=>aC 1 D B C λR E=>cz cC (bO [(I 0),(I 0),(I 0)] 0) [] 0 E λF g=>aq 3 a λG=>af g G λH=>cZ cC 3 24 [(I 0),(I 0),(I 0)] F H g λJ L=>aq 3 c λM=>aC 1 M J L λS N=>bK (σ:=bw [7]) (λx hh O=>Lu P a c d K l x.1 hh (λa0 hz=>O (a0,()) hz)) ((I 0),()) N)
theorem ZY(a b:Value)(H:Lv Tryz.prog a b h K):aE Tryz.prog Kx [a,b].toArray h K:=
 bT (bA:=(bD (Tryz.f3.body.getD .skip) 0 [(10,[7]),(31,[17])]).1) (c:=Tryz.f3.body.getD .skip) Tryz.func3 (by kernel_rfl) (by kernel_rfl) (by kernel_rfl) (of_decide_eq_true (by kernel_rfl))
  (Eq.mpr (by kernel_rfl) H)
def Lw(P:Program)(K:KT)(a:aa):Prop:=K (.bool false) a
def Lx(P:Program)(K:KT)(a:aa):Prop:=K (.bool false) a
def Ly(P:Program)(f:Value)(K:KT)(b:Value)(d:aa)(Z:KT):Prop:=ak .lss b (I 6) λg=>az g (aP [(I 0),(I 0),(I 0),(I 0)] [(0,1,b),(2,1,(I 2))] λi=>ah P zq [f,i] d λe j=>aX e 0 λk=>aX e 1 λt=>aB eB (.agg #[(I 0),(I 0),(.slice none 0 0),(.slice none 0 0)]) j λc l=>aC 4 c k l λu a=>aq 0 c λm=>af a m λn=>ak .neq n (I 0) λo=>az o (Lx P K a) (aq 1 c λp=>af a p λq=>ak .neq q (I 5) λr=>az r (Lx P K a) (ak .add b (I 1) λs=>Z s a))) (K (.bool true) d)
def Lz(P:Program)(h:aa)(K:KT):Prop:=cz bY (bO [(I 0)] 3) [(0,1,(I 0)),(1,1,(I 1)),(2,1,(I 2))] 3 h λg i=>cz bY (bO [(I 0)] 3) [(0,1,(I 0)),(1,1,(I 0)),(2,1,(I 0))] 3 i λj k=>aP [(I 0),(I 0),(I 0)] [(0,1,(I 0)),(1,1,(I 1)),(2,1,(I 2))] λl=>aP [(I 0),(I 0),(I 0)] [(0,1,(I 1)),(1,1,(I 2)),(2,1,(I 3))] λm=>aP [(I 0),(I 0),(I 0)] [(0,1,(I 0)),(1,1,(I 2)),(2,1,(I 6))] λn=>cz cC (bO [(I 0),(I 0),(I 0)] 3) [(0,3,l),(3,3,m),(6,3,n)] 3 k λo p=>aP [(I 0),(.slice none 0 0),(.slice none 0 0),(.slice none 0 0)] [(0,1,(I 3)),(1,1,g),(2,1,j),(3,1,o)] λq=>aB cN (.agg #[(I 0),(.slice none 0 0),(.slice none 0 0),(.slice none 0 0)]) p λa r=>aC 4 a q r λu b=>aZ 4 b a λs=>aP [(I 0),(I 0),(.slice none 0 0),(I 0),(I 0)] [(0,1,(I 1)),(3,1,(I 1)),(4,1,(I 2))] λt=>ah P zo [s,t] b λc d=>aX c 0 λe=>aX c 1 λv=>bL true .iface v .nilIface λw=>az w (Lw P K d) (ah P zp [e] d λy f=>bx y λz=>ak .neq z (I 6) λA=>az A (Lw P K f) (bK (σ:=bw [4]) (λx hh B=>Ly P e K x.1 hh (λa0 hz=>B (a0,()) hz)) ((I 0),()) f))
theorem Z0(H:Lz Tryz.prog h K):aE Tryz.prog Dl [].toArray h K:=
 bT (bA:=(bD (Tryz.f4.body.getD .skip) 0 [(8,[4])]).1) (c:=Tryz.f4.body.getD .skip) Tryz.func4 (by kernel_rfl) (by kernel_rfl) (by kernel_rfl) (of_decide_eq_true (by kernel_rfl))
  (Eq.mpr (by kernel_rfl) H)
def LA(P:Program)(e:Value)(h:aa)(K:KT):Prop:=aB kJ e h λb f=>aB cN (.agg #[(I 0),(.slice none 0 0),(.slice none 0 0),(.slice none 0 0)]) f λc a=>aq 0 b λg=>af a g λi=>aq 0 b λj=>af a j λk=>bx k λl=>jD l (I 60) λm=>dY 1 i none (some m) none λn=>aP [(.slice none 0 0),(I 0)] [(0,1,n)] λo=>aB ng o a λp q=>ah P Dq [p] q λr s=>aC 4 c r s λu d=>aZ 4 d c λres=>K res d
theorem Z3(a:Value)(H:LA Tryz.prog a h K):aE Tryz.prog Dm [a].toArray h K:=
 aO Tryz.func5 (Eq.mpr (by kernel_rfl) H)
def LB(P:Program)(f:Value)(h:aa)(K:KT):Prop:=aB cN f h λb c=>aZ 4 c b λg=>ah P Dr [g] c λd a=>bL true .iface d .nilIface λi=>az i (ah P ZL [d] a λj k=>aB wU (.agg #[(I 0),(I 0),(I 0),(I 0)]) k λe l=>aC 4 e j l λu m=>aP [(.pointer none)] [(0,1,e)] λn=>K (.tuple #[(.pointer none),(.iface ZU n)]) m) (aZ 4 a b λo=>ah P Dt [o] a λp q=>ah P Ds [p] q λr s=>K (.tuple #[r,.nilIface]) s)
theorem Z4(a:Value)(H:LB Tryz.prog a h K):aE Tryz.prog zn [a].toArray h K:=
 aO Tryz.func6 (Eq.mpr (by kernel_rfl) H)
def w9(P:Program)(K:KT)(a:Value)(b:aa):Prop:=K (.tuple #[a,.nilIface]) b
def xd(P:Program)(d e a:Value)(K:KT)(b:aa):Prop:=aq 3 d λl=>af b l λm=>ak .neq m (I 0) λn=>az n (aq 3 d λf=>af b f λg=>aq 4 d λi=>af b i λj=>ah P zx [] b λo c=>(af c f λp=>p=g)/\(af c i λq=>q=j)/\(de (.int .i64) .nilFunc false c o g λr=>aS P r [e,j].toArray c λs t=>ah P vW [s] t λu v=>ah P zw [u] v λw x=>aJ a λy=>aq 2 y λz=>aC 1 z w x λJ k=>aJ a λA=>aq 2 A λB=>af k B λC=>ah P zy [e,C] k λD E=>aJ a λF=>aq 3 F λG=>aC 1 G D E λL H=>w9 P K a H)) (w9 P K a b)
def LC(P:Program)(w p1:Value)(h:aa)(K:KT):Prop:=aB cN w h λx y=>aB fG p1 y λa m=>aZ 5 m a λz=>ah P Du [z] m λn g=>bL true .iface n .nilIface λA=>az A (K (.tuple #[(.pointer none),n]) g) (aZ 4 g x λB=>ah P zn [B] g λo p=>aX o 0 λc=>aX o 1 λq=>bL true .iface q .nilIface λC=>az C (K (.tuple #[(.pointer none),q]) p) (aP [(.pointer none),(.pointer none),(.pointer none),(.pointer none)] [(0,1,c)] λD=>aB mA D p λi b=>aq 0 a λE=>af b E λF=>ak .gtr F (I 0) λG=>az G (aq 1 a λj=>af b j λe=>aq 0 a λk=>af b k λl=>aq 2 a λr=>af b r λs=>ah P zv [] b λt d=>(af d j λH=>H=e)/\(af d k λJ=>J=l)/\(af d r λL=>L=s)/\(de (.int .i64) .nilFunc false d t e λv=>ah P Dv [s] d λM f=>(af f j λN=>N=e)/\(af f k λO=>O=l)/\(de (.int .i64) .nilFunc false f t e λQ=>Q=v)/\(aS P v [c,l,M].toArray f λR S=>ah P zu [c,R] S λT U=>aJ i λV=>aq 1 V λW=>aC 1 W T U λu X=>xd P a c i K X))) (xd P a c i K b)))
theorem Z5(a p1:Value)(H:LC Tryz.prog a p1 h K):aE Tryz.prog zo [a,p1].toArray h K:=
 aO Tryz.func7 (Eq.mpr (by kernel_rfl) H)
def FJ(P:Program)(d a:Value)(K:KT)(b:aa):Prop:=aZ 5 b d λe=>aC 5 a e b λf c=>aZ 5 c a λres=>K res c
def LD(P:Program)(d c:Value)(K:KT)(a:Value)(b:aa):Prop:=aq 2 d λe=>af b e λf=>az f (aq 1 a λg=>aC 1 g (I 1) b λj i=>FJ P a c K i) (FJ P a c K b)
def LF(P:Program)(w:Value)(h:aa)(K:KT):Prop:=aB kJ w h λb y=>aB fG (.agg #[(I 0),(I 0),(.slice none 0 0),(I 0),(I 0)]) y λz a=>eW (σ:=bw [3]) (λJ=>aq 1 b λc=>af a c λd=>ak .rem d (.int .u8 6) λA=>fR .i64 A λm=>aq 3 b λB=>af a B λC=>aq 3 b λD=>af a D λE=>bx E λF=>jD F (I 12) λG=>dY 1 C none (some G) none λn=>aq 4 b λe=>af a e λf=>ak .rem f (.int .u8 3) λH=>fR .i64 H λo=>aq 5 b λg=>af a g λi=>ak .rem i (.int .u8 8) λL=>fR .i64 L λM=>ak .add (I 1) M λp=>(cz gl (bO [(.int .u32 0)] 0) [] 0 a λq r=>(cZ gl 1 4 [(.int .u32 0)] q n r λN j=>(af j c λO=>O=d)/\(af j e λQ=>Q=f)/\(af j g λR=>R=i)/\(aP [(I 0),(I 0),(.slice none 0 0),(I 0),(I 0)] [(0,1,m),(2,1,N),(3,1,o),(4,1,p)] λS=>aB fG (.agg #[(I 0),(I 0),(.slice none 0 0),(I 0),(I 0)]) j λs T=>aC 5 s S T λu U=>J (s,()) U))/\(aB fG (.agg #[(I 0),(I 0),(.slice none 0 0),(I 0),(I 0)]) r λt V=>cZ gl 1 4 [(.int .u32 0)] q n V λW k=>(af k c λX=>X=d)/\(af k e λY=>Y=f)/\(af k g λZ=>Z=i)/\(aP [(I 0),(I 0),(.slice none 0 0),(I 0),(I 0)] [(0,1,m),(2,1,W),(3,1,o),(4,1,p)] λag=>aC 5 t ag k λaD ah=>J (t,()) ah)))/\(aB fG (.agg #[(I 0),(I 0),(.slice none 0 0),(I 0),(I 0)]) a λv ai=>cz gl (bO [(.int .u32 0)] 0) [] 0 ai λaj an=>cZ gl 1 4 [(.int .u32 0)] aj n an λau l=>(af l c λav=>av=d)/\(af l e λax=>ax=f)/\(af l g λay=>ay=i)/\(aP [(I 0),(I 0),(.slice none 0 0),(I 0),(I 0)] [(0,1,m),(2,1,au),(3,1,o),(4,1,p)] λaz=>aC 5 v az l λaE aA=>J (v,()) aA))) (λx hh=>LD P b z K x.1 hh)
theorem Z6(a:Value)(H:LF Tryz.prog a h K):aE Tryz.prog Dn [a].toArray h K:=
 bT (bA:=(bD (Tryz.f8.body.getD .skip) 0 [(1,[3])]).1) (c:=Tryz.f8.body.getD .skip) Tryz.func8 (by kernel_rfl) (by kernel_rfl) (by kernel_rfl) (of_decide_eq_true (by kernel_rfl))
  (Eq.mpr (by kernel_rfl) H)
def LG(P:Program)(a d:Value)(h:aa)(K:KT):Prop:=aB qi (.agg #[(.slice none 0 0),(.slice none 0 0),(.slice none 0 0)]) h λb e=>ah P vX [a,d,(.func (.func rz) #[a] #[]),(.func (.func Dw) #[] #[])] e λf g=>aC 3 b f g λu c=>aZ 3 c b λres=>K res c
theorem Z7(a b:Value)(H:LG Tryz.prog a b h K):aE Tryz.prog lC [a,b].toArray h K:=
 aO Tryz.func9 (Eq.mpr (by kernel_rfl) H)
def LH(P:Program)(a:Value)(h:aa)(K:KT):Prop:=ah P Kz [a] h λb c=>ah P qa [b] c λd e=>K d e
theorem Z8(a:Value)(H:LH Tryz.prog a h K):aE Tryz.prog zp [a].toArray h K:=
 aO Tryz.func10 (Eq.mpr (by kernel_rfl) H)
def LI(P:Program)(K:KT)(a:aa):Prop:=K (.bool false) a
def AB(P:Program)(K:KT)(a:aa):Prop:=K (.bool false) a
def LJ(P:Program)(K:KT)(a:aa):Prop:=K (.bool false) a
def ud(P:Program)(a:Value)(Z:KT)(b:aa):Prop:=ak .add a (I 1) λc=>Z c b
def LK(P:Program)(c d e:Value)(K:KT)(b:Value)(a:aa)(Z:KT):Prop:=bx c λf=>ak .lss b f λg=>az g (aW 4 c b λi=>aq 0 i λj=>af a j λk=>ak .eql k (I 0) λl=>az l (aq 0 d λm=>af a m λn=>ak .neq n (I 1) λo=>az o (aq 0 d λp=>af a p λq=>ak .neq q (I 3) λr=>az r (aW 4 c b λs=>aq 3 s λt=>af a t λu=>ak .gtr u e λv=>az v (LJ P K a) (aW 4 c b λw=>aq 1 w λx=>af a x λy=>ak .neq y (I 0) λz=>az z (LJ P K a) (ud P b Z a))) (ud P b Z a)) (ud P b Z a)) (ud P b Z a)) (K (.bool true) a)
def LL(P:Program)(d n e:Value)(h:aa)(K:KT):Prop:=aB eG n h λf j=>aZ 4 j f λo=>ah P zq [d,o] j λk p=>aX k 0 λq=>aX k 1 λg=>aB eB (.agg #[(I 0),(I 0),(.slice none 0 0),(.slice none 0 0)]) p λb r=>aC 4 b q r λu l=>aJ d λs=>aq 0 s λt=>af l t λv=>ah P Dx [v,g] l λw i=>bS .not w λy=>az y (LI P K i) (aJ d λz=>aq 0 z λA=>af i A λB=>ah P Dy [B,g] i λC a=>bS .not C λD=>az D (LI P K a) (ak .geq e (I 72057594037927936) λE=>az E (aq 0 b λF=>af a F λG=>ak .eql G (I 20) λH=>az H (aq 1 b λJ=>af a J λL=>ak .eql L (I 0) λM=>az M (aq 2 b λN=>af a N λO=>bx O λQ=>ak .eql Q (I 0) λR=>K R a) (K (.bool false) a)) (K (.bool false) a)) (aJ d λS=>aq 0 S λT=>af a T λU=>aq 1 f λV=>af a V λW=>aq 2 f λX=>af a X λY=>aq 2 b λZ=>af a Z λag=>ah P Dz [U,W,Y,ag] a λm c=>aX m 0 λai=>aX m 1 λaj=>aq 0 b λan=>af c an λau=>ak .neq au (I 0) λav=>az av (AB P K c) (aq 1 b λax=>af c ax λay=>ak .neq ay e λaA=>az aA (AB P K c) (bS .not aj λaD=>az aD (AB P K c) (ak .neq ai e λaE=>az aE (AB P K c) (bK (σ:=bw [11]) (λx hh aF=>LK P g f e K x.1 hh (λa0 hz=>aF (a0,()) hz)) ((I 0),()) c)))))))
theorem Z9(a b d:Value)(H:LL Tryz.prog a b d h K):aE Tryz.prog Dp [a,b,d].toArray h K:=
 bT (bA:=(bD (Tryz.f11.body.getD .skip) 0 [(14,[11])]).1) (c:=Tryz.f11.body.getD .skip) Tryz.func11 (by kernel_rfl) (by kernel_rfl) (by kernel_rfl) (of_decide_eq_true (by kernel_rfl))
  (Eq.mpr (by kernel_rfl) H)
def LM(P:Program)(i d b c:Value)(K:KT)(j:Value)(e:aa):Prop:=aZ 3 e j λl=>af e i λm=>ah P zC [l,m] e λn o=>ah P qc [n,(I 19)] o λL a=>aq 1 d λp=>af a p λq=>aq 2 d λr=>af a r λs=>ak .eql q s λt=>az t (aZ 4 a b λu=>aC 4 b u a λM v=>aC 1 c (.slice none 0 0) v λN w=>jo P zz #[b,c] w λf=>aZ 4 f b λres=>af f c λx=>K (.tuple #[res,x]) f) (aq 2 j λy=>af a y λz=>af a i λA=>aZ 4 a d λB=>aS P z [A,B].toArray a λk C=>aX k 0 λD=>aX k 1 λE=>aC 4 b D C λO F=>aC 1 c E F λQ G=>jo P zz #[b,c] G λg=>aZ 4 g b λH=>af g c λJ=>K (.tuple #[H,J]) g)
def FK(P:Program)(a c m n:Value)(K:KT)(f:aa):Prop:=aq 1 a λo=>af f o λp=>aS P (.func (.func zA) #[] #[c]) [p].toArray f λq r=>ah P qc [q,(I 17)] r λL g=>aq 2 a λs=>af g s λt=>aS P (.func (.func zA) #[] #[c]) [t].toArray g λv w=>ah P qc [v,(I 18)] w λM d=>eW (σ:=bw [7]) (λJ=>aq 0 a λe=>af d e λb=>(ah P vY [] d λy i=>(af i e λz=>z=b)/\(ou 3 6 y b λA=>aB oR (.agg #[(.bool false),(.bool false),.nilFunc]) i λj B=>aC 3 j A B λu C=>J (j,()) C))/\(aB oR (.agg #[(.bool false),(.bool false),.nilFunc]) d λk D=>ah P vY [] D λE l=>(af l e λF=>F=b)/\(ou 3 6 E b λG=>aC 3 k G l λN H=>J (k,()) H))) (λx hh=>LM P c a m n K x.1 hh)
def LN(P:Program)(g i:Value)(h:aa)(K:KT):Prop:=aB tV g h λc j=>aB eG i j λa k=>aB eB (.agg #[(I 0),(I 0),(.slice none 0 0),(.slice none 0 0)]) k λd l=>aB nW (.slice none 0 0) l λe f=>af f c λm=>ah P zB [m] f λn o=>ah P qc [n,(I 15)] o λx b=>aq 0 a λp=>af b p λq=>ak .geq q (I 0) λr=>az r (aq 0 a λs=>af b s λt=>ak .lss t (I 6) λu=>ah P qc [u,(I 16)] b λy v=>FK P a c d e K v) (ah P qc [(.bool false),(I 16)] b λz w=>FK P a c d e K w)
theorem aaa(a b:Value)(H:LN Tryz.prog a b h K):aE Tryz.prog zq [a,b].toArray h K:=
 JD (g:=zz) (A:=cL (Tryz.f12.body.getD .skip)) (B:=cR (cR (Tryz.f12.body.getD .skip))) (l8:=(bD (cL (Tryz.f12.body.getD .skip)) 0 []).1) (iq:=(bD (cR (cR (Tryz.f12.body.getD .skip))) 0 [(5,[7])]).1) (id:=vD (cL (cR (Tryz.f12.body.getD .skip)))) (o1:=cO 0 (cL (cR (Tryz.f12.body.getD .skip)))) (o2:=cO 1 (cL (cR (Tryz.f12.body.getD .skip)))) (s:=8) (caps:= #[(.tmp 4),(.tmp 5)]) (c:={callee:=.value (.tmp 8),args:= #[],argTypes:= #[]})
  Tryz.func12 (by kernel_rfl) (by kernel_rfl) (by kernel_rfl) (of_decide_eq_true (by kernel_rfl)) (by kernel_rfl) (by kernel_rfl) (by kernel_rfl) (by kernel_rfl) rfl rfl (by kernel_rfl) (by kernel_rfl)
  (Eq.mpr (by kernel_rfl) H)
def FL(P:Program)(a:Value)(b:KT)(c:aa):Prop:=ak .add a (I 1) λd=>b d c
def LO(P:Program)(b g e:Value)(f:KT)(c:Value)(d:aa):Prop:=aq 3 b λi=>af d i λj=>aZ 3 d c λk=>cz cC (bO [(I 0),(I 0),(I 0)] 1) [(0,3,k)] 1 d λl m=>cZ cC 3 24 [(I 0),(I 0),(I 0)] j l m λn o=>aq 3 b λp=>aC 1 p n o λJ q=>ah P jb [g,(I 4)] q λr a=>ak .eql r (I 0) λs=>az s (aq 3 b λt=>af a t λu=>aq 1 c λv=>af a v λw=>aq 0 c λx=>af a x λy=>aq 2 c λz=>af a z λA=>aP [(I 0),(I 0),(I 0)] [(0,1,w),(1,1,y),(2,1,A)] λB=>cz cC (bO [(I 0),(I 0),(I 0)] 1) [(0,3,B)] 1 a λC D=>cZ cC 3 24 [(I 0),(I 0),(I 0)] u C D λE F=>aq 3 b λG=>aC 1 G E F λL H=>FL P e f H) (FL P e f a)
def LP(P:Program)(t d a i:Value)(K:KT)(j:Value)(b:aa)(u:KT):Prop:=ak .lss j t λv=>az v (eW (σ:=bw [9]) (λJ=>aq 0 d λw=>af b w λk=>aq 0 d λe=>af b e λc=>(ah P jb [a,k] b λf g=>(af g e λy=>y=c)/\((ah P jb [a,c] g λl m=>(ah P rA [a] m λz A=>aP [(I 0),(I 0),(I 0)] [(0,1,f),(1,1,l),(2,1,z)] λB=>aB cC (.agg #[(I 0),(I 0),(I 0)]) A λn C=>aC 3 n B C λau D=>J (n,()) D)/\(aB cC (.agg #[(I 0),(I 0),(I 0)]) m λo E=>ah P rA [a] E λF G=>aP [(I 0),(I 0),(I 0)] [(0,1,f),(1,1,l),(2,1,F)] λH=>aC 3 o H G λav L=>J (o,()) L))/\(aB cC (.agg #[(I 0),(I 0),(I 0)]) g λp M=>ah P jb [a,c] M λN O=>ah P rA [a] O λQ R=>aP [(I 0),(I 0),(I 0)] [(0,1,f),(1,1,N),(2,1,Q)] λS=>aC 3 p S R λax T=>J (p,()) T)))/\(aB cC (.agg #[(I 0),(I 0),(I 0)]) b λq U=>ah P jb [a,k] U λV r=>(af r e λW=>W=c)/\(ah P jb [a,c] r λX Y=>ah P rA [a] Y λZ ag=>aP [(I 0),(I 0),(I 0)] [(0,1,V),(1,1,X),(2,1,Z)] λai=>aC 3 q ai ag λay aj=>J (q,()) aj))) (λx hh=>LO P d a j u x.1 hh)) (aZ 4 b d λan=>aC 4 i an b λaA s=>aZ 4 s i λres=>K res s)
def xg(P:Program)(a b c d:Value)(K:KT)(e:aa):Prop:=bK (σ:=bw [8]) (λx hh f=>LP P a b c d K x.1 hh (λa0 hz=>f (a0,()) hz)) ((I 0),()) e
def LQ(P:Program)(a m d f g:Value)(K:KT)(c:Value)(b:aa)(n:KT):Prop:=aq 0 a λo=>af b o λp=>ak .lss c p λq=>az q (az m (aq 3 a λi=>af b i λj=>ak .add c (I 1) λr=>aq 0 a λk=>af b k λl=>ak .rem r l λs=>ah P rA [d] b λt e=>(af e i λu=>u=j)/\(af e k λv=>v=l)/\(aP [(I 0),(I 0),(I 0)] [(0,1,c),(1,1,s),(2,1,t)] λw=>cz cC (bO [(I 0),(I 0),(I 0)] 1) [(0,3,w)] 1 e λx y=>cZ cC 3 24 [(I 0),(I 0),(I 0)] j x y λz A=>aq 3 a λB=>aC 1 B z A λE C=>ak .add c (I 1) λD=>n D C)) (xg P f a d g K b)) (xg P f a d g K b)
def AD(P:Program)(b a d:Value)(K:KT)(c:aa):Prop:=aq 0 b λe=>af c e λf=>ak .mul (I 3) f λg=>ak .add g (I 1) λi=>ah P jb [a,i] c λj k=>ah P jb [a,(I 3)] k λl m=>ak .gtr l (I 0) λn=>bK (σ:=bw [7]) (λx hh o=>LQ P b n a j d K x.1 hh (λa0 hz=>o (a0,()) hz)) ((I 0),()) m
def LU(P:Program)(a b f:Value)(K:KT)(g:Value)(c:aa)(Z:KT):Prop:=aq 0 a λp=>af c p λq=>ak .lss g q λr=>az r (aq 1 a λi=>af c i λj=>ah P jb [b,(I 9)] c λs k=>(af k i λt=>t=j)/\(ak .sub s (I 3) λu=>cz bY (bO [(I 0)] 1) [(0,1,u)] 1 k λv w=>cZ bY 1 8 [(I 0)] j v w λx y=>aq 1 a λz=>aC 1 z x y λY l=>aq 2 a λm=>af l m λn=>ah P jb [b,(I 7)] l λA o=>(af o m λB=>B=n)/\(cz bY (bO [(I 0)] 1) [(0,1,A)] 1 o λC D=>cZ bY 1 8 [(I 0)] n C D λE F=>aq 2 a λG=>aC 1 G E F λag H=>ak .add g (I 1) λJ=>Z J H))) (ah P jb [b,(I 9)] c λL d=>ak .eql L (I 0) λM=>az M (aq 1 a λN=>af d N λO=>aW 1 O (I 0) λQ=>aC 1 Q (I (-2147483648)) d λai e=>aq 2 a λR=>af e R λS=>aq 0 a λT=>af e T λU=>ak .sub U (I 1) λV=>aW 1 S V λW=>aC 1 W (I 2147483647) e λaj X=>AD P a b f K X) (AD P a b f K d))
def LV(P:Program)(a:Value)(h:aa)(K:KT):Prop:=aB cN (.agg #[(I 0),(.slice none 0 0),(.slice none 0 0),(.slice none 0 0)]) h λc d=>ah P jb [a,(I 12)] d λe f=>ak .add (I 1) e λg=>aP [(I 0),(.slice none 0 0),(.slice none 0 0),(.slice none 0 0)] [(0,1,g)] λi=>aB cN (.agg #[(I 0),(.slice none 0 0),(.slice none 0 0),(.slice none 0 0)]) f λb j=>aC 4 b i j λu k=>bK (σ:=bw [4]) (λx hh l=>LU P b a c K x.1 hh (λa0 hz=>l (a0,()) hz)) ((I 0),()) k
theorem aab(a:Value)(H:LV Tryz.prog a h K):aE Tryz.prog Dq [a].toArray h K:=
 bT (bA:=(bD (Tryz.f13.body.getD .skip) 0 [(4,[4]),(16,[7]),(22,[8]),(26,[9])]).1) (c:=Tryz.f13.body.getD .skip) Tryz.func13 (by kernel_rfl) (by kernel_rfl) (by kernel_rfl) (of_decide_eq_true (by kernel_rfl))
  (Eq.mpr (by kernel_rfl) H)
end Go.Proofs.YthglofkkjoiepaaGreatDoor

set_option maxRecDepth 100000
namespace Go.Proofs.YthglofkkjoiepaaGreatDoor
open Go Go.Mh
variable{h:aa}{K:KT}
set_option maxHeartbeats 0
def LW(P:Program)(d:Value)(h:aa)(K:KT):Prop:=aB cN d h λe f=>aB ZT .nilIface f λa b=>aZ 4 b e λg=>ah P DB [g] b λk i=>aC 1 a .nilIface i λu j=>jo P DA #[a] j λc=>af c a λres=>K res c
theorem aac(a:Value)(H:LW Tryz.prog a h K):aE Tryz.prog Dr [a].toArray h K:=
 JD (g:=DA) (A:=cL (Tryz.f14.body.getD .skip)) (B:=cR (cR (Tryz.f14.body.getD .skip))) (l8:=(bD (cL (Tryz.f14.body.getD .skip)) 0 []).1) (iq:=(bD (cR (cR (Tryz.f14.body.getD .skip))) 0 []).1) (id:=vD (cL (cR (Tryz.f14.body.getD .skip)))) (o1:=cO 0 (cL (cR (Tryz.f14.body.getD .skip)))) (o2:=cO 1 (cL (cR (Tryz.f14.body.getD .skip)))) (s:=3) (caps:= #[(.tmp 2)]) (c:={callee:=.value (.tmp 3),args:= #[],argTypes:= #[]})
  Tryz.func14 (by kernel_rfl) (by kernel_rfl) (by kernel_rfl) (of_decide_eq_true (by kernel_rfl)) (by kernel_rfl) (by kernel_rfl) (by kernel_rfl) (by kernel_rfl) rfl rfl (by kernel_rfl) (by kernel_rfl)
  (Eq.mpr (by kernel_rfl) H)
def LX(P:Program)(d:Value)(h:aa)(K:KT):Prop:=aB cN d h λa c=>aZ 4 c a λe=>aP [(I 0),(.slice none 0 0),(.slice none 0 0),(.slice none 0 0),(.slice none 0 0),(.slice none 0 0)] [(0,4,e)] λf=>aB wV f c λb g=>aS P (.func (.func zD) #[] #[a]) [(.func (.func DC) #[] #[])].toArray g λi j=>aS P (.func (.func zD) #[] #[a]) [(.func (.func DD) #[] #[])].toArray j λk l=>aJ b λm=>aq 4 m λn=>aC 1 n i l λu o=>aJ b λp=>aq 5 p λq=>aC 1 q k o λs r=>K b r
theorem aad(a:Value)(H:LX Tryz.prog a h K):aE Tryz.prog Ds [a].toArray h K:=
 aO Tryz.func16 (Eq.mpr (by kernel_rfl) H)
def LY(P:Program)(m:Value)(h:aa)(K:KT):Prop:=aB cN m h λa n=>aB cN (.agg #[(I 0),(.slice none 0 0),(.slice none 0 0),(.slice none 0 0)]) n λf b=>aq 1 a λo=>af b o λp=>aq 2 a λg=>af b g λi=>aq 3 a λc=>af b c λd=>ah P zE [p] b λq e=>(af e g λr=>r=i)/\(af e c λs=>s=d)/\(aq 1 a λt=>ah P zE [i] e λv j=>(af j c λw=>w=d)/\(ah P DE [d] j λx y=>aC 1 t q y λu z=>aq 2 a λA=>aC 1 A v z λE B=>aq 3 a λC=>aC 1 C x B λF k=>aZ 4 k a λD=>aC 4 f D k λG l=>aZ 4 l f λres=>K res l))
theorem aae(a:Value)(H:LY Tryz.prog a h K):aE Tryz.prog Dt [a].toArray h K:=
 aO Tryz.func17 (Eq.mpr (by kernel_rfl) H)
def LZ(P:Program)(b:Value)(h:aa)(K:KT):Prop:=aB fG b h λp1 a=>aZ 5 a p1 λc=>aP [.nilFunc,(I 0)] [(0,1,(.func (.func vZ) #[] #[])),(1,1,(I 11))] λd=>aP [.nilFunc,(I 0)] [(0,1,(.func (.func wg) #[] #[])),(1,1,(I 12))] λe=>aP [.nilFunc,(I 0)] [(0,1,(.func (.func wh) #[] #[])),(1,1,(I 13))] λf=>aP [.nilFunc,(I 0)] [(0,1,(.func (.func wj) #[] #[])),(1,1,(I 14))] λg=>cz Lo (bO [.nilFunc,(I 0)] 4) [(0,2,d),(2,2,e),(4,2,f),(6,2,g)] 4 a λi j=>ah P DF [c,i] j λk l=>K k l
theorem aaf(a:Value)(H:LZ Tryz.prog a h K):aE Tryz.prog Du [a].toArray h K:=
 aO Tryz.func18 (Eq.mpr (by kernel_rfl) H)
def L1(P:Program)(K:KT)(a:aa):Prop:=K (.pointer none) a
def L3(P:Program)(a b:Value)(h:aa)(K:KT):Prop:=bL false .ptr a (.pointer none) λd=>az d (L1 P K h) (ah P ct [a] h λe f=>ah P DG [e,b] f λg c=>bS .not g λi=>az i (L1 P K c) (ah P ct [a] c λj k=>ah P nS [b] k λl m=>ah P DH [a,b,(.func (.func tu) #[] #[])] m λn o=>ah P zF [n] o λp q=>ah P DH [a,b,(.func (.func lC) #[] #[])] q λr s=>ah P zF [r] s λt u=>aP [(I 0),(.slice none 0 0),(.slice none 0 0),(.slice none 0 0)] [(0,1,j),(1,1,l),(2,1,p),(3,1,t)] λv=>aB FE v u λw x=>K w x))
theorem aag(a b:Value)(H:L3 Tryz.prog a b h K):aE Tryz.prog zu [a,b].toArray h K:=
 aO Tryz.func19 (Eq.mpr (by kernel_rfl) H)
def L4(P:Program)(h:aa)(K:KT):Prop:=bp h λa b=>dQ (.int .i64) a (I 0) (.func (.func qd) #[] #[]) b λu c=>dQ (.int .i64) a (I 1) (.func (.func rB) #[] #[]) c λe d=>K a d
theorem aah(H:L4 Tryz.prog h K):aE Tryz.prog zv [].toArray h K:=
 aO Tryz.func20 (Eq.mpr (by kernel_rfl) H)
def L5(P:Program)(l0:Value)(h:aa)(K:KT):Prop:=bx l0 λa=>c9 gl 4 [(.int .u32 0)] a a h λb c=>jl 1 b l0 c λi d=>aP [(.slice none 0 0)] [(0,1,b)] λe=>aB lD e d λf g=>K f g
theorem aai(l0:Value)(H:L5 Tryz.prog l0 h K):aE Tryz.prog Dv [l0].toArray h K:=
 aO Tryz.func21 (Eq.mpr (by kernel_rfl) H)
def L6(P:Program)(K:KT)(a:aa):Prop:=K (.pointer none) a
def L7(P:Program)(a:Value)(h:aa)(K:KT):Prop:=bx a λe=>ak .eql e (I 0) λf=>az f (L6 P K h) (ah P vW [a] h λg i=>ah P DI [g,a] i λj c=>bS .not j λk=>az k (L6 P K c) (ah P nS [a] c λl m=>ah P DJ [a] m λn o=>ak .add n (I 1) λp=>aP [(.slice none 0 0),(I 0)] [(0,1,l),(1,1,p)] λq=>aB qj q o λd b=>aJ d λr=>aq 1 r λs=>af b s λt=>ak .gtr t (I 256) λu=>az u (K (.pointer none) b) (K d b)))
theorem aaj(a:Value)(H:L7 Tryz.prog a h K):aE Tryz.prog zw [a].toArray h K:=
 aO Tryz.func22 (Eq.mpr (by kernel_rfl) H)
def L8(P:Program)(a:Value)(h:aa)(K:KT):Prop:=ah P KB [] h λb c=>ah P KA [a,b] c λd e=>K d e
theorem aak(a:Value)(H:L8 Tryz.prog a h K):aE Tryz.prog vW [a].toArray h K:=
 aO Tryz.func23 (Eq.mpr (by kernel_rfl) H)
def L9(P:Program)(h:aa)(K:KT):Prop:=bp h λa b=>dQ (.int .i64) a (I 0) (.func (.func wk) #[] #[]) b λu c=>dQ (.int .i64) a (I 1) (.func (.func tw) #[] #[]) c λf d=>dQ (.int .i64) a (I 2) (.func (.func wq) #[] #[]) d λg e=>K a e
theorem aal(H:L9 Tryz.prog h K):aE Tryz.prog zx [].toArray h K:=
 aO Tryz.func24 (Eq.mpr (by kernel_rfl) H)
def Ma(P:Program)(b:aa)(c d:Value)(L:Loop)(e:Value)(f:aa)(R:Exit->aa->Prop):Prop:=gY (b.size+1) L f λa=>af a c λg=>af a d λi=>ah P DL [g,i,e,(.bool true)] a λk j=>R .normal j
def Mb(P:Program)(g i j e:Value)(K:KT)(m:List Nat)(b:Value)(c:aa)(Z:List Nat->KT):Prop:=ak .lss b g λk=>az k (aB au (I 0) c λd l=>aC 1 d b l λv f=>af f d λn=>ah P KC [i,j,n] f λo a=>gd P o [26] (a.size+1) (a.push (.deferred (some []))) (λL x hh R=>Ma P a e d L x.1 hh R) (λp=>ak .add b (I 1) λq=>Z (a.size::m) q p) (λr=>cH (a.size::m) r λs=>K (.pointer none) s) []) (af c e λt=>cH m c λu=>K t u)
def Mc(P:Program)(b a:Value)(h:aa)(K:KT):Prop:=ah P zG [b,a] h λe c=>bS .not e λf=>az f (K (.pointer none) c) (ah P wu [a] c λg i=>ah P kH [b] i λj k=>ah P DK [g,j] k λl m=>aB nh (.pointer none) m λd n=>aC 1 d l n λu o=>ah P wu [a] o λp q=>bK (σ:=List Nat×bw [19]) (λx hh r=>Mb P p b a d K x.1 x.2.1 hh (λs a0 hz=>r (s,(a0,())) hz)) ([],((I 0),())) q)
theorem aam(a b:Value)(H:Mc Tryz.prog a b h K):aE Tryz.prog zy [a,b].toArray h K:=
 bT (bA:=(bD (Tryz.f25.body.getD .skip) 0 [(7,[19])]).1) (c:=Tryz.f25.body.getD .skip) Tryz.func25 (by kernel_rfl) (by kernel_rfl) (by kernel_rfl) (of_decide_eq_true (by kernel_rfl))
  (Eq.mpr (by kernel_rfl) H)
def AE(P:Program)(a:Value)(K:KT)(c:aa):Prop:=aP [(.slice none 0 0),(.slice none 0 0),(.slice none 0 0)] [] λd=>aC 3 a d c λu b=>aZ 3 b a λres=>K res b
def Md(P:Program)(c:aa)(d e:Value)(L:Loop)(f g:Value)(i:aa)(R:Exit->aa->Prop):Prop:=aB cC (.agg #[(I 0),(I 0),(I 0)]) i λb j=>aC 3 b g j λt k=>gY (c.size+1) L k λa=>af a d λl=>aq 1 b λm=>af a m λn=>af a e λo=>aq 2 b λp=>af a p λq=>ak .add o q λr=>ah P DM [l,n,f,r] a λu s=>R .normal s
def FM(P:Program)(a t u v g:Value)(K:KT)(m:List Nat)(c i w:Value)(b:aa)(Z:List Nat->Value->Value->KT):Prop:=az w (af b a λy=>aJ y λz=>aq 4 z λA=>af b A λn=>de (.int .i64) (I 0) false b n c λB=>ak .add B (I 1) λC=>dQ (.int .i64) n c C b λaY e=>af e a λD=>aJ D λE=>aq 1 E λF=>aq 0 F λG=>af e G λH=>af e i λJ=>aW 1 H c λM=>aC 1 M J e λbf f=>af f a λo=>af f a λN=>aJ N λO=>aq 1 O λQ=>aq 2 Q λS=>af f S λT=>cz au (bO [(I 0)] 1) [(0,1,c)] 1 f λU V=>cZ au 1 8 [(I 0)] T U V λW p=>(af p a λX=>X=o)/\(aJ o λY=>aq 1 Y λag=>aq 2 ag λai=>aC 1 ai W p λbg aj=>aS P t [c].toArray aj λan av=>ah P KD [u,an,v] av λax d=>gd P ax [101,102] (d.size+1) (d.push (.deferred (some []))) (λL x hh R=>Md P d a i L x.1 x.2.1 hh R) (λq=>af q i λay=>aB bY (I 0) q λj aA=>aC 1 j ay aA λbh k=>af k a λaD=>aJ aD λaE=>aq 0 aE λaF=>af k aF λaG=>ah P oQ [aG] k λl aH=>aX l 0 λaI=>aX l 1 λaK=>aX l 2 λaL=>aC 1 j aK aH λbk aM=>Z (d.size::m) aI j aL aM) (λaN=>cH (d.size::m) aN λr=>aZ 3 r g λaO=>K aO r) [])) (af b a λaP=>aJ aP λaQ=>aq 1 aQ λaR=>aZ 3 b aR λaT=>aC 3 g aT b λbl aU=>cH m aU λs=>aZ 3 s g λaV=>K aV s)
def FN(P:Program)(a d l m:Value)(h:aa)(K:KT):Prop:=aB qi (.agg #[(.slice none 0 0),(.slice none 0 0),(.slice none 0 0)]) h λb e=>bL false .ptr a (.pointer none) λn=>az n (AE P b K e) (ak .lss d (I 0) λo=>az o (AE P b K e) (ah P ct [a] e λp j=>ak .geq d p λq=>az q (AE P b K j) (ah P ct [a] j λr s=>ah P cP [r] s λt u=>cz bY (bO [(I 0)] 1) [(0,1,(I 72057594037927936))] 1 u λv w=>ah P ct [a] w λy z=>ah P zH [v,y] z λA B=>cz au (bO [(I 0)] 1) [(0,1,(I (-1)))] 1 B λC D=>ah P ct [a] D λE F=>ah P zI [C,E] F λG H=>aP [(.slice none 0 0),(.slice none 0 0),(.slice none 0 0)] [(0,1,A),(1,1,G)] λJ=>bp H λL M=>aP [(.pointer none),(.slice none 0 0),(.slice none 0 0),(.slice none 0 0),(.map none)] [(0,1,t),(1,3,J),(4,1,L)] λN=>aB Ax N M λO Q=>aB FG (.pointer none) Q λc R=>aC 1 c O R λaF f=>af f c λS=>aJ S λT=>aq 0 T λU=>af f U λV=>ah P oP [V,d,(I 0)] f λaG g=>af g c λW=>aJ W λX=>aq 0 X λY=>af g Y λZ=>ah P oQ [Z] g λi ag=>aX i 0 λai=>aX i 1 λaj=>aX i 2 λan=>aB bY (I 0) ag λk av=>aC 1 k aj av λaH ax=>bK (σ:=List Nat×bw [10,11,12]) (λx hh ay=>FM P c l a m b K x.1 x.2.1 x.2.2.1 x.2.2.2.1 hh (λaA a0 aD aE hz=>ay (aA,(a0,(aD,(aE,())))) hz)) ([],(ai,(k,(an,())))) ax)))
theorem Me(a b d e:Value)(H:FN Tryz.prog a b d e h K):aE Tryz.prog vX [a,b,d,e].toArray h K:=
 bT (bA:=(bD (Tryz.f26.body.getD .skip) 0 [(8,[10,11,12])]).1) (c:=Tryz.f26.body.getD .skip) Tryz.func26 (by kernel_rfl) (by kernel_rfl) (by kernel_rfl) (of_decide_eq_true (by kernel_rfl))
  (Eq.mpr (by kernel_rfl) H)
def Mf(P:Program)(a c:Value)(h:aa)(K:KT):Prop:=bL false .ptr a (.pointer none) λd=>az d (K (.slice none 0 0) h) (aJ a λe=>aq 4 e λf=>af h f λg=>ah P zJ [g,c] h λb i=>aX b 0 λj=>aX b 1 λm=>ah P nS [j] i λk l=>K k l)
theorem aan(a b:Value)(H:Mf Tryz.prog a b h K):aE Tryz.prog rz [a,b].toArray h K:=
 aO Tryz.func27 (Eq.mpr (by kernel_rfl) H)
def Mg(P:Program)(a0:Value)(h:aa)(K:KT):Prop:=aB cC a0 h λb a=>aq 1 b λc=>af a c λd=>K d a
theorem aao(a0:Value)(H:Mg Tryz.prog a0 h K):aE Tryz.prog Dw [a0].toArray h K:=
 aO Tryz.func28 (Eq.mpr (by kernel_rfl) H)
def AF(P:Program)(a:Value)(h:aa)(K:KT):Prop:=ah P KF [(.slice none 0 0),a] h λb c=>K b c
theorem FO(a:Value)(H:AF Tryz.prog a h K):aE Tryz.prog qa [a].toArray h K:=
 aO Tryz.func29 (Eq.mpr (by kernel_rfl) H)
def Mi(P:Program)(a:Value)(h:aa)(K:KT):Prop:=aB tV a h λb c=>K (.func (.func DN) #[] #[b]) c
theorem aap(a:Value)(H:Mi Tryz.prog a h K):aE Tryz.prog Kz [a].toArray h K:=
 aO Tryz.func30 (Eq.mpr (by kernel_rfl) H)
def Mj(P:Program)(a d:Value)(h:aa)(K:KT):Prop:=bL false .ptr a (.pointer none) λe=>az e (K (.bool false) h) (ah P DO [a] h λf g=>aB wW .nilFunc g λb i=>aC 1 b f i λu j=>bp j λk l=>aB Lp (.map none) l λc m=>aC 1 c k m λr n=>ah P zK [d,(.func (.func KG) #[] #[c,b])] n λo p=>bS .not o λq=>K q p)
theorem aaq(a b:Value)(H:Mj Tryz.prog a b h K):aE Tryz.prog Dx [a,b].toArray h K:=
 aO Tryz.func31 (Eq.mpr (by kernel_rfl) H)
def Mk(P:Program)(e f:Value)(h:aa)(K:KT):Prop:=aB cq e h λb a=>af a b λg=>bL false .ptr g (.pointer none) λi=>az i (K (.bool false) a) (af a b λj=>ah P DO [j] a λk l=>aB wW .nilFunc l λc m=>aC 1 c k m λu n=>aP [(I 0),(I 0)] [(0,1,(I (-1))),(1,1,(I (-1)))] λo=>aB FH (.agg #[(I 0),(I 0)]) n λd p=>aC 2 d o p λv q=>ah P zK [f,(.func (.func KI) #[] #[c,d,b])] q λr s=>bS .not r λt=>K t s)
theorem aar(a b:Value)(H:Mk Tryz.prog a b h K):aE Tryz.prog Dy [a,b].toArray h K:=
 aO Tryz.func32 (Eq.mpr (by kernel_rfl) H)
def Ml(P:Program)(f:aa)(c d:Value)(L:Loop)(g i:Value)(j:aa)(R:Exit->aa->Prop):Prop:=aB cC (.agg #[(I 0),(I 0),(I 0)]) j λb k=>aC 3 b g k λv l=>gY (f.size+1) L l λa=>bS .not i λm=>az m (aC 1 c (I (-1)) a λw n=>R (.exit 0) n) (af a d λo=>aq 2 b λp=>af a p λq=>ak .add o q λr=>aC 1 d r a λx e=>aq 1 b λs=>af e s λt=>aC 1 c t e λy u=>R .normal u)
def AG(P:Program)(a:Value)(c:aa)(K:KT)(d:aa):Prop:=aC 1 a (I 0) d λg e=>cH (c.size:: []) e λb=>af b a λf=>K (.tuple #[f,(.bool false)]) b
def xh(P:Program)(d b:Value)(c:aa)(K:KT)(f:Value)(a:aa):Prop:=af a d λg=>ak .lss g (I 0) λi=>az i (AG P b c K a) (af a d λj=>ak .neq j f λk=>az k (AG P b c K a) (af a b λl=>aC 1 b l a λo m=>cH (c.size:: []) m λe=>af e b λn=>K (.tuple #[n,(.bool true)]) e))
def Mm(P:Program)(e d f k:Value)(h:aa)(K:KT):Prop:=aB bY (I 0) h λa l=>ah P DQ [e,d] l λm g=>bS .not m λn=>az n (aC 1 a (I 0) g λu i=>af i a λres=>K (.tuple #[res,(.bool false)]) i) (aB au (I 0) g λc o=>aC 1 c d o λw p=>ah P KJ [e,d,k] p λq b=>gd P q [22,23] (b.size+1) (b.push (.deferred (some []))) (λL x hh R=>Ml P b c a L x.1 x.2.1 hh R) (λr=>xh P c a b K f r) (λs=>cH (b.size:: []) s λj=>af j a λt=>K (.tuple #[t,(.bool false)]) j) [(0,(λv=>xh P c a b K f v))])
theorem aas(a b c d:Value)(H:Mm Tryz.prog a b c d h K):aE Tryz.prog Dz [a,b,c,d].toArray h K:=
 aO Tryz.func33 (Eq.mpr (by kernel_rfl) H)
def Mn(P:Program)(a b:Value)(h:aa)(K:KT):Prop:=ak .geq a (I 0) λc=>az c (af h b λd=>aJ d λe=>aq 0 e λf=>af h f λg=>ah P ct [g] h λi j=>ak .lss a i λk=>K k j) (K (.bool false) h)
theorem aat(a b:Value)(H:Mn Tryz.prog a b h K):aE Tryz.prog zA [a,b].toArray h K:=
 aO Tryz.func35 (Eq.mpr (by kernel_rfl) H)
def Mo(P:Program)(a:Value)(h:aa)(K:KT):Prop:=bL false .ptr a (.pointer none) λb=>az b (K (I 0) h) (aJ a λc=>aq 0 c λd=>aq 0 d λe=>af h e λf=>K f h)
theorem aau(a:Value)(H:Mo Tryz.prog a h K):aE Tryz.prog ct [a].toArray h K:=
 aO Tryz.func36 (Eq.mpr (by kernel_rfl) H)
end Go.Proofs.YthglofkkjoiepaaGreatDoor

set_option maxRecDepth 100000
namespace Go.Proofs.YthglofkkjoiepaaGreatDoor
open Go Go.Mh
variable{h:aa}{K:KT}
set_option maxHeartbeats 0
def Mp(P:Program)(a b:Value)(h:aa)(K:KT):Prop:=bS .not a λc=>az c (aP [(I 0)] [(0,1,b)] λd=>False) (K (.tuple #[]) h)
theorem aav(a b:Value)(H:Mp Tryz.prog a b h K):aE Tryz.prog qc [a,b].toArray h K:=
 aO Tryz.func37 (Eq.mpr (by kernel_rfl) H)
def Mq(P:Program)(K:KT)(a:aa):Prop:=K (.bool false) a
def aaw(P:Program)(K:KT)(a:Value)(b:aa):Prop:=K a b
def AH(P:Program)(d b:Value)(K:KT)(e:Value)(a:aa):Prop:=eW (σ:=bw [2]) (λc=>az d (az e (c ((.bool true),()) a) (aJ b λf=>aq 0 f λg=>af a g λi=>aJ b λj=>aq 2 j λk=>af a k λl=>aJ b λm=>aq 3 m λn=>af a n λo=>ah P zL [i,l,o] a λp q=>c (p,()) q)) (c ((.bool false),()) a)) (λx hh=>aaw P K x.1 hh)
def Mr(P:Program)(a:Value)(K:KT)(c:Value)(b:aa):Prop:=aJ a λd=>aq 2 d λe=>af b e λf=>bL false .ptr f (.pointer none) λg=>az g (aJ a λi=>aq 3 i λj=>af b j λk=>bL false .ptr k (.pointer none) λl=>AH P c a K l b) (AH P c a K (.bool false) b)
def Ms(P:Program)(a:Value)(h:aa)(K:KT):Prop:=bL false .ptr a (.pointer none) λf=>az f (Mq P K h) (aJ a λg=>aq 0 g λi=>af h i λj=>bL false .ptr j (.pointer none) λk=>az k (Mq P K h) (eW (σ:=bw [3]) (λJ=>aJ a λl=>aq 1 l λm=>af h m λn=>bL false .ptr n (.pointer none) λo=>az o (J ((.bool true),()) h) (aJ a λp=>aq 1 p λq=>af h q λr=>aJ a λs=>aq 0 s λc=>af h c λd=>ah P qe [r] h λt e=>(af e c λu=>u=d)/\(ah P ct [d] e λv b=>ak .eql t v λw=>az w (aJ a λy=>aq 1 y λz=>af b z λA=>ah P qf [A] b λB C=>bx B λD=>ak .gtr D (I 0) λE=>J (E,()) C) (J ((.bool false),()) b)))) (λx hh=>Mr P a K x.1 hh)))
theorem aax(a:Value)(H:Ms Tryz.prog a h K):aE Tryz.prog zB [a].toArray h K:=
 bT (bA:=(bD (Tryz.f38.body.getD .skip) 0 [(4,[3]),(6,[2])]).1) (c:=Tryz.f38.body.getD .skip) Tryz.func38 (by kernel_rfl) (by kernel_rfl) (by kernel_rfl) (of_decide_eq_true (by kernel_rfl))
  (Eq.mpr (by kernel_rfl) H)
def Mt(P:Program)(h:aa)(K:KT):Prop:=aB ZV (.agg #[(.bool false),(.bool false),.nilFunc,(.bool false),(.bool false),.nilFunc,(.bool false),(.bool false),.nilFunc,(.bool false),(.bool false),.nilFunc,(.bool false),(.bool false),.nilFunc,(.bool false),(.bool false),.nilFunc]) h λa c=>ah P DT [(.func (.func kI) #[] #[])] c λd e=>aP [(.bool false),(.bool false),.nilFunc] [(0,1,(.bool false)),(1,1,(.bool false)),(2,1,d)] λf=>ah P DT [(.func (.func nT) #[] #[])] e λg i=>aP [(.bool false),(.bool false),.nilFunc] [(0,1,(.bool false)),(1,1,(.bool false)),(2,1,g)] λj=>aP [(.bool false),(.bool false),.nilFunc] [(0,1,(.bool true)),(1,1,(.bool false)),(2,1,(.func (.func DU) #[] #[]))] λk=>aP [(.bool false),(.bool false),.nilFunc] [(0,1,(.bool true)),(1,1,(.bool false)),(2,1,(.func (.func DW) #[] #[]))] λl=>aP [(.bool false),(.bool false),.nilFunc] [(0,1,(.bool false)),(1,1,(.bool true)),(2,1,(.func (.func tA) #[] #[]))] λm=>aP [(.bool false),(.bool false),.nilFunc] [(0,1,(.bool true)),(1,1,(.bool true)),(2,1,(.func (.func tA) #[] #[]))] λn=>aP [(.bool false),(.bool false),.nilFunc,(.bool false),(.bool false),.nilFunc,(.bool false),(.bool false),.nilFunc,(.bool false),(.bool false),.nilFunc,(.bool false),(.bool false),.nilFunc,(.bool false),(.bool false),.nilFunc] [(0,3,f),(3,3,j),(6,3,k),(9,3,l),(12,3,m),(15,3,n)] λo=>aC 18 a o i λu b=>aZ 18 b a λres=>K res b
theorem aay(H:Mt Tryz.prog h K):aE Tryz.prog vY [].toArray h K:=
 aO Tryz.func39 (Eq.mpr (by kernel_rfl) H)
def Mu(P:Program)(w0 b:Value)(h:aa)(K:KT):Prop:=aB oR w0 h λc a=>aq 0 c λd=>af a d λe=>bS .not e λf=>az f (aq 1 c λg=>af a g λi=>bS .not i λj=>az j (K (.bool true) a) (aJ b λk=>aq 2 k λl=>af a l λm=>bL true .ptr m (.pointer none) λn=>K n a)) (aJ b λo=>aq 1 o λp=>af a p λq=>bL true .ptr q (.pointer none) λr=>az r (aq 1 c λs=>af a s λt=>bS .not t λu=>az u (K (.bool true) a) (aJ b λv=>aq 2 v λw=>af a w λx=>bL true .ptr x (.pointer none) λy=>K y a)) (K (.bool false) a))
theorem aaz(w0 a:Value)(H:Mu Tryz.prog w0 a h K):aE Tryz.prog zC [w0,a].toArray h K:=
 aO Tryz.func40 (Eq.mpr (by kernel_rfl) H)
def FP(P:Program)(K:KT)(a:aa):Prop:=K (I 0) a
def Mv(P:Program)(a n1:Value)(h:aa)(K:KT):Prop:=aJ a λc=>aq 0 c λd=>af h d λe=>bx e λf=>ak .eql f (I 0) λg=>az g (FP P K h) (ak .lss n1 (I 1) λi=>az i (FP P K h) (aJ a λj=>aq 1 j λk=>af h k λl=>ak .add l (I 1) λm=>aJ a λn=>aq 1 n λo=>aC 1 o m h λu b=>aJ a λp=>aq 0 p λq=>af b q λr=>aJ a λs=>aq 1 s λt=>af b t λv=>ak .sub v (I 1) λw=>aJ a λx=>aq 0 x λy=>af b y λz=>bx z λA=>ak .rem w A λB=>aW 1 r B λC=>af b C λD=>aJ a λE=>aq 1 E λF=>af b F λG=>ak .sub G (I 1) λH=>aJ a λJ=>aq 0 J λL=>af b L λM=>bx M λN=>ak .quo H N λO=>fR .u8 O λQ=>ak .add D Q λR=>fR .i64 R λS=>ak .rem S n1 λT=>K T b))
theorem aaA(a n1:Value)(H:Mv Tryz.prog a n1 h K):aE Tryz.prog jb [a,n1].toArray h K:=
 aO Tryz.func41 (Eq.mpr (by kernel_rfl) H)
def Mw(P:Program)(a:Value)(h:aa)(K:KT):Prop:=ah P jb [a,(I 12)] h λc b=>ak .lss c (I 3) λd=>az d (K (I 0) b) (ak .lss c (I 10) λe=>az e (ah P jb [a,(I 9)] b λf g=>ak .add (I 1) f λi=>K i g) (ak .lss c (I 11) λj=>az j (ah P jb [a,(I 20)] b λk l=>ak .mul (I 100) k λm=>K m l) (ah P jb [a,(I 2)] b λn o=>ak .sub (I 2147483647) n λp=>K p o)))
theorem aaB(a:Value)(H:Mw Tryz.prog a h K):aE Tryz.prog rA [a].toArray h K:=
 aO Tryz.func42 (Eq.mpr (by kernel_rfl) H)
def Mx(P:Program)(b c:Value)(a:aa):Prop:=aq 2 b λd=>af a d λe=>af a c λf=>aq 0 b λg=>af a g λi=>aq 1 b λj=>af a j λk=>aP [(I 0),(I 0),(I 0),(I 0)] [(0,1,e),(1,1,f),(2,1,i),(3,1,k)] λl=>aB wU l a λm n=>aP [(.pointer none)] [(0,1,m)] λo=>False
def AI(P:Program)(d:aa)(c:Value)(L:Loop)(e:Value)(f:aa)(R:Exit->aa->Prop):Prop:=aB lE (.agg #[(I 0),(I 0),(I 0),(I 0),(I 0),(I 0)]) f λa g=>aC 6 a e g λt i=>gY (d.size+1) L i λb=>aq 3 a λj=>af b j λk=>aq 4 a λl=>af b l λm=>ak .lss k m λn=>az n (Mx P a c b) (aq 3 a λo=>af b o λp=>aq 5 a λq=>af b q λr=>ak .geq p r λs=>az s (Mx P a c b) (R .normal b))
def My(P:Program)(e f:Value)(K:KT)(m:List Nat)(b:Value)(c:aa)(Z:List Nat->KT):Prop:=ak .lss b e λg=>az g (aW 1 f b λi=>af c i λj=>aB au (I 0) c λd k=>aC 1 d b k λu l=>aS P j [].toArray l λn a=>gd P n [19] (a.size+1) (a.push (.deferred (some []))) (λL x hh R=>AI P a d L x.1 hh R) (λo=>ak .add b (I 1) λp=>Z (a.size::m) p o) (λq=>cH (a.size::m) q λr=>K (.tuple #[]) r) []) (cH m c λs=>K (.tuple #[]) s)
def Mz(P:Program)(c:Value)(h:aa)(K:KT):Prop:=aB cN c h λa d=>cz FI (bO [.nilFunc] 5) [(0,1,(.func (.func tB) #[] #[a])),(1,1,(.func (.func tC) #[] #[a])),(2,1,(.func (.func tD) #[] #[a])),(3,1,(.func (.func tE) #[] #[a])),(4,1,(.func (.func tF) #[] #[a]))] 5 d λb e=>bx b λf=>bK (σ:=List Nat×bw [12]) (λx hh g=>My P f b K x.1 x.2.1 hh (λi a0 hz=>g (i,(a0,())) hz)) ([],((I 0),())) e
theorem aaC(a:Value)(H:Mz Tryz.prog a h K):aE Tryz.prog DB [a].toArray h K:=
 bT (bA:=(bD (Tryz.f44.body.getD .skip) 0 [(2,[12])]).1) (c:=Tryz.f44.body.getD .skip) Tryz.func44 (by kernel_rfl) (by kernel_rfl) (by kernel_rfl) (of_decide_eq_true (by kernel_rfl))
  (Eq.mpr (by kernel_rfl) H)
def FQ(P:Program)(a:Value)(b:KT)(c:aa):Prop:=ak .add a (I 1) λd=>b d c
def FR(P:Program)(q r c a:Value)(K:KT)(b:Value)(g:aa)(s:KT):Prop:=ak .lss b q λt=>az t (eW (σ:=bw []) (λi=>aW 3 r b λu=>aZ 3 g u λv=>aB cC (.agg #[(I 0),(I 0),(I 0)]) g λd w=>aC 3 d v w λaq f=>aZ 3 f d λk=>aZ 3 f d λe=>(aS P c [k].toArray f λl j=>(aZ 3 j d λy=>y=e)/\((aS P c [e].toArray j λz m=>aW 1 a z λA=>af m A λB=>cz au (bO [(I 0)] 1) [(0,1,b)] 1 m λC D=>cZ au 1 8 [(I 0)] B C D λE F=>aW 1 a l λG=>aC 1 G E F λav H=>i () H)/\(cz au (bO [(I 0)] 1) [(0,1,b)] 1 j λJ L=>aS P c [e].toArray L λM n=>aW 1 a M λN=>af n N λO=>cZ au 1 8 [(I 0)] O J n λQ R=>aW 1 a l λS=>aC 1 S Q R λax T=>i () T)))/\(cz au (bO [(I 0)] 1) [(0,1,b)] 1 f λU V=>aS P c [k].toArray V λW o=>(aZ 3 o d λX=>X=e)/\(aS P c [e].toArray o λY p=>aW 1 a Y λZ=>af p Z λag=>cZ au 1 8 [(I 0)] ag U p λah ai=>aW 1 a W λaj=>aC 1 aj ah ai λay an=>i () an))) (λx hh=>FQ P b s hh)) (K a g)
def MA(P:Program)(g i j d k l:Value)(K:KT)(a b:Value)(c:aa)(m:Value->KT):Prop:=ak .lss b g λn=>az n (aW 1 i b λo=>af c o λe=>ak .add a e λp=>dY 1 j (some a) (some a) (some p) λq=>aW 1 d b λr=>aC 1 r q c λz s=>ak .add a e λt=>ak .add b (I 1) λu=>m t u s) (aq 3 k λv=>af c v λf=>bx f λw=>bK (σ:=bw [64]) (λx hh y=>FR P w f l d K x.1 hh (λa0 hz=>y (a0,()) hz)) ((I 0),()) c)
def FT(P:Program)(a b c:Value)(K:KT)(d e:Value)(f:aa):Prop:=bx a λg=>bK (σ:=bw [9,42]) (λx hh i=>MA P g a d e b c K x.1 x.2.1 hh (λa0 j hz=>i (a0,(j,())) hz)) ((I 0),((I 0),())) f
def MB(P:Program)(m n g d e:Value)(K:KT)(f:Value)(a:aa)(Z:KT):Prop:=ak .lss f m λo=>az o (aW 3 n f λp=>aZ 3 a p λq=>aB cC (.agg #[(I 0),(I 0),(I 0)]) a λi r=>aC 3 i q r λu j=>aZ 3 j i λs=>aS P g [s].toArray j λk l=>aW 1 d k λt=>af l t λv=>ak .add v (I 1) λw=>aW 1 d k λy=>aC 1 y w l λQ z=>ak .add f (I 1) λA=>Z A z) (eW (σ:=bw [7,8]) (λJ=>aq 3 e λB=>af a B λC=>bx C λb=>aq 0 e λD=>af a D λc=>(c9 au 8 [(I 0)] b b a λE F=>c9 bR 24 [(.slice none 0 0)] c c F λG H=>J (E,(G,())) H)/\(c9 bR 24 [(.slice none 0 0)] c c a λL M=>c9 au 8 [(I 0)] b b M λN O=>J (N,(L,())) O)) (λx hh=>FT P d e g K x.1 x.2.1 hh))
def MC(P:Program)(e a:Value)(h:aa)(K:KT):Prop:=aq 0 a λf=>af h f λb=>c9 au 8 [(I 0)] b b h λg c=>aq 3 a λi=>af c i λd=>bx d λj=>bK (σ:=bw [20]) (λx hh k=>MB P j d e g a K x.1 hh (λa0 hz=>k (a0,()) hz)) ((I 0),()) c
theorem aaD(a b:Value)(H:MC Tryz.prog a b h K):aE Tryz.prog zD [a,b].toArray h K:=
 bT (bA:=(bD (Tryz.f46.body.getD .skip) 0 [(4,[20]),(9,[7,8]),(13,[9,42]),(21,[64]),(24,[])]).1) (c:=Tryz.f46.body.getD .skip) Tryz.func46 (by kernel_rfl) (by kernel_rfl) (by kernel_rfl) (of_decide_eq_true (by kernel_rfl))
  (Eq.mpr (by kernel_rfl) H)
def MD(P:Program)(a0:Value)(h:aa)(K:KT):Prop:=aB cC a0 h λb a=>aq 0 b λc=>af a c λd=>K d a
theorem aaE(a0:Value)(H:MD Tryz.prog a0 h K):aE Tryz.prog DC [a0].toArray h K:=
 aO Tryz.func47 (Eq.mpr (by kernel_rfl) H)
def ME(P:Program)(a0:Value)(h:aa)(K:KT):Prop:=aB cC a0 h λb a=>aq 1 b λc=>af a c λd=>K d a
theorem aaF(a0:Value)(H:ME Tryz.prog a0 h K):aE Tryz.prog DD [a0].toArray h K:=
 aO Tryz.func48 (Eq.mpr (by kernel_rfl) H)
def aaG(P:Program)(s0:Value)(h:aa)(K:KT):Prop:=bL false .slice s0 (.slice none 0 0) λa=>az a (K (.slice none 0 0) h) (cz bY (bO [(I 0)] 0) [] 0 h λb c=>cZ bY 1 8 [(I 0)] b s0 c λd e=>K d e)
theorem aaH(s0:Value)(H:aaG Tryz.prog s0 h K):aE Tryz.prog zE [s0].toArray h K:=
 aO Tryz.func49 (Eq.mpr (by kernel_rfl) H)
def aaI(P:Program)(s0:Value)(h:aa)(K:KT):Prop:=bL false .slice s0 (.slice none 0 0) λa=>az a (K (.slice none 0 0) h) (cz cC (bO [(I 0),(I 0),(I 0)] 0) [] 0 h λb c=>cZ cC 3 24 [(I 0),(I 0),(I 0)] b s0 c λd e=>K d e)
theorem aaJ(s0:Value)(H:aaI Tryz.prog s0 h K):aE Tryz.prog DE [s0].toArray h K:=
 aO Tryz.func50 (Eq.mpr (by kernel_rfl) H)
def MF(P:Program)(f g p2:Value)(K:KT)(a:Value)(b:aa)(Z:KT):Prop:=ak .lss a f λi=>az i (aW 2 g a λj=>aZ 2 b j λk=>aB Lo (.agg #[.nilFunc,(I 0)]) b λc l=>aC 2 c k l λu d=>aq 0 c λm=>af d m λn=>aZ 5 d p2 λo=>aS P n [o].toArray d λp e=>bS .not p λq=>az q (aq 1 c λr=>af e r λs=>aP [(I 0),(I 0),(I 0),(I 0)] [(0,1,s)] λt=>aB wU t e λv w=>K (.iface FD v) w) (ak .add a (I 1) λx=>Z x e)) (K .nilIface b)
def MG(P:Program)(b a:Value)(h:aa)(K:KT):Prop:=aB fG b h λp2 c=>bx a λd=>bK (σ:=bw [9]) (λx hh e=>MF P d a p2 K x.1 hh (λa0 hz=>e (a0,()) hz)) ((I 0),()) c
theorem aaK(a b:Value)(H:MG Tryz.prog a b h K):aE Tryz.prog DF [a,b].toArray h K:=
 bT (bA:=(bD (Tryz.f51.body.getD .skip) 0 [(3,[9])]).1) (c:=Tryz.f51.body.getD .skip) Tryz.func51 (by kernel_rfl) (by kernel_rfl) (by kernel_rfl) (of_decide_eq_true (by kernel_rfl))
  (Eq.mpr (by kernel_rfl) H)
def MH(P:Program)(b:Value)(h:aa)(K:KT):Prop:=aB fG b h λp1 a=>aq 0 p1 λc=>af a c λd=>ak .geq d (I 0) λe=>az e (aq 0 p1 λf=>af a f λg=>ak .leq g (I 16) λi=>K i a) (K (.bool false) a)
theorem aaL(a:Value)(H:MH Tryz.prog a h K):aE Tryz.prog vZ [a].toArray h K:=
 aO Tryz.func52 (Eq.mpr (by kernel_rfl) H)
def MI(P:Program)(e:Value)(h:aa)(K:KT):Prop:=aB fG e h λp1 b=>aq 1 p1 λc=>af b c λd=>ah P zv [] b λf a=>(af a c λg=>g=d)/\(de (.int .i64) .nilFunc false a f d λi=>bL true .func i .nilFunc λj=>K j a)
theorem aaM(a:Value)(H:MI Tryz.prog a h K):aE Tryz.prog wg [a].toArray h K:=
 aO Tryz.func53 (Eq.mpr (by kernel_rfl) H)
def MJ(P:Program)(e:Value)(h:aa)(K:KT):Prop:=aB fG e h λp1 b=>aq 3 p1 λc=>af b c λd=>ah P zx [] b λf a=>(af a c λg=>g=d)/\(de (.int .i64) .nilFunc false a f d λi=>bL true .func i .nilFunc λj=>K j a)
theorem aaN(a:Value)(H:MJ Tryz.prog a h K):aE Tryz.prog wh [a].toArray h K:=
 aO Tryz.func54 (Eq.mpr (by kernel_rfl) H)
def MK(P:Program)(b:Value)(h:aa)(K:KT):Prop:=aB fG b h λp1 a=>aq 3 p1 λc=>af a c λd=>ak .eql d (I 0) λe=>az e (K (.bool true) a) (aq 4 p1 λf=>af a f λg=>ak .geq g (I 1) λi=>az i (aq 4 p1 λj=>af a j λk=>ak .leq k (I 256) λl=>K l a) (K (.bool false) a))
theorem aaO(a:Value)(H:MK Tryz.prog a h K):aE Tryz.prog wj [a].toArray h K:=
 aO Tryz.func55 (Eq.mpr (by kernel_rfl) H)
def MM(P:Program)(d a:Value)(h:aa)(K:KT):Prop:=aB au d h λe f=>bp f λg i=>aB rL (.map none) i λb j=>aC 1 b g j λu c=>bx a λk=>ak .leq k (I 16) λl=>az l (ah P zN [a,(.func (.func KO) #[] #[b,e])] c λm n=>bS .not m λo=>K o n) (K (.bool false) c)
theorem aaP(a b:Value)(H:MM Tryz.prog a b h K):aE Tryz.prog DG [a,b].toArray h K:=
 aO Tryz.func56 (Eq.mpr (by kernel_rfl) H)
def aaQ(P:Program)(s0:Value)(h:aa)(K:KT):Prop:=bL false .slice s0 (.slice none 0 0) λa=>az a (K (.slice none 0 0) h) (cz au (bO [(I 0)] 0) [] 0 h λb c=>cZ au 1 8 [(I 0)] b s0 c λd e=>K d e)
theorem MN(s0:Value)(H:aaQ Tryz.prog s0 h K):aE Tryz.prog nS [s0].toArray h K:=
 aO Tryz.func57 (Eq.mpr (by kernel_rfl) H)
def MO(P:Program)(a:Value)(h:aa)(K:KT):Prop:=ah P KQ [(.slice none 0 0),a] h λb c=>K b c
theorem aaR(a:Value)(H:MO Tryz.prog a h K):aE Tryz.prog zF [a].toArray h K:=
 aO Tryz.func58 (Eq.mpr (by kernel_rfl) H)
def FU(P:Program)(a b c:Value)(h:aa)(K:KT):Prop:=aB cq a h λn3 d=>aB bR b d λe f=>aB tW c f λg i=>K (.func (.func DZ) #[] #[e,g,n3]) i
theorem MP(a b c:Value)(H:FU Tryz.prog a b c h K):aE Tryz.prog DH [a,b,c].toArray h K:=
 aO Tryz.func59 (Eq.mpr (by kernel_rfl) H)
end Go.Proofs.YthglofkkjoiepaaGreatDoor

set_option maxRecDepth 100000
namespace Go.Proofs.YthglofkkjoiepaaGreatDoor
open Go Go.Mh
variable{h:aa}{K:KT}
set_option maxHeartbeats 0
def MQ(P:Program)(a d:Value)(h:aa)(K:KT):Prop:=aB qi (.agg #[(.slice none 0 0),(.slice none 0 0),(.slice none 0 0)]) h λb e=>ah P vX [a,d,(.func (.func rC) #[a] #[]),(.func (.func D0) #[] #[])] e λf g=>aC 3 b f g λu c=>aZ 3 c b λres=>K res c
theorem aaS(a b:Value)(H:MQ Tryz.prog a b h K):aE Tryz.prog tu [a,b].toArray h K:=
 aO Tryz.func60 (Eq.mpr (by kernel_rfl) H)
def MR(P:Program)(a:Value)(K:KT)(c:aa):Prop:=aC 1 a (.slice none 0 0) c λu b=>af b a λres=>K res b
def MS(P:Program)(d:aa)(b e:Value)(L:Loop)(f:Value)(g:aa)(R:Exit->aa->Prop):Prop:=gY (d.size+1) L g λc=>af c b λi=>cz au (bO [(I 0)] 1) [(0,1,f)] 1 c λj k=>cZ au 1 8 [(I 0)] i j k λl m=>aC 1 b l m λr a=>af a b λn=>bx n λo=>af a e λp=>ak .eql o p λq=>az q (R (.exit 0) a) (R .normal a)
def xk(P:Program)(a:Value)(d:aa)(K:KT)(b:aa):Prop:=af b a λe=>aC 1 a e b λi f=>cH (d.size:: []) f λc=>af c a λg=>K g c
def MT(P:Program)(d g i:Value)(h:aa)(K:KT):Prop:=aB au g h λe j=>aB bR (.slice none 0 0) j λa c=>bL false .ptr d (.pointer none) λk=>az k (MR P a K c) (af c e λl=>ak .lss l (I 1) λm=>az m (MR P a K c) (ah P ct [d] c λn o=>ah P tG [i,n] o λp q=>ah P KR [d,p] q λr b=>gd P r [20] (b.size+1) (b.push (.deferred (some []))) (λL x hh R=>MS P b a e L x.1 hh R) (λs=>xk P a b K s) (λt=>cH (b.size:: []) t λf=>af f a λu=>K u f) [(0,(λv=>xk P a b K v))]))
theorem aaT(a b c:Value)(H:MT Tryz.prog a b c h K):aE Tryz.prog qd [a,b,c].toArray h K:=
 aO Tryz.func61 (Eq.mpr (by kernel_rfl) H)
def AJ(P:Program)(b c d:Value)(Z:Value->KT)(a:Value)(e:aa):Prop:=cz au (bO [(I 0)] 1) [(0,1,a)] 1 e λf g=>cZ au 1 8 [(I 0)] b f g λi j=>cz au (bO [(I 0)] 1) [(0,1,a)] 1 j λk l=>ah P D5 [c,k] l λm n=>cZ gG 7 152 [(I 0),(.slice none 0 0),(.slice none 0 0),(.slice none 0 0),(.slice none 0 0),(.slice none 0 0),(.slice none 0 0)] d m n λo p=>Z i o p
def MU(P:Program)(a g i:Value)(K:KT)(b c:Value)(j:aa)(Z:Value->KT):Prop:=bx b λk=>ah P ct [a] j λl d=>jD g l λm=>ak .lss k m λn=>az n (ah P ct [a] d λo p=>ah P tG [i,o] p λe f=>bx b λq=>ak .gtr q (I 0) λr=>az r (ah P D4 [a,c,e] f λs t=>AJ P b a c Z s t) (AJ P b a c Z e f)) (K b d)
def MW(P:Program)(a b c:Value)(h:aa)(K:KT):Prop:=bL false .ptr a (.pointer none) λd=>az d (K (.slice none 0 0) h) (bK (σ:=bw [6,7]) (λx hh e=>MU P a b c K x.1 x.2.1 hh (λa0 f hz=>e (a0,(f,())) hz)) ((.slice none 0 0),((.slice none 0 0),())) h)
theorem aaU(a b d:Value)(H:MW Tryz.prog a b d h K):aE Tryz.prog rB [a,b,d].toArray h K:=
 bT (bA:=(bD (Tryz.f62.body.getD .skip) 0 [(6,[6,7])]).1) (c:=Tryz.f62.body.getD .skip) Tryz.func62 (by kernel_rfl) (by kernel_rfl) (by kernel_rfl) (of_decide_eq_true (by kernel_rfl))
  (Eq.mpr (by kernel_rfl) H)
def MX(P:Program)(c d e:Value)(K:KT)(b:Value)(a:aa)(Z:KT):Prop:=ak .lss b c λf=>az f (aW 1 d b λg=>af a g λi=>aW 1 e b λj=>af a j λk=>ak .neq i k λl=>az l (K (.bool false) a) (ak .add b (I 1) λm=>Z m a)) (K (.bool true) a)
def MY(P:Program)(a b:Value)(h:aa)(K:KT):Prop:=bx a λc=>bx b λd=>ak .neq c d λe=>az e (K (.bool false) h) (bx a λf=>bK (σ:=bw [13]) (λx hh g=>MX P f a b K x.1 hh (λa0 hz=>g (a0,()) hz)) ((I 0),()) h)
theorem aaV(a b:Value)(H:MY Tryz.prog a b h K):aE Tryz.prog DI [a,b].toArray h K:=
 bT (bA:=(bD (Tryz.f63.body.getD .skip) 0 [(6,[13])]).1) (c:=Tryz.f63.body.getD .skip) Tryz.func63 (by kernel_rfl) (by kernel_rfl) (by kernel_rfl) (of_decide_eq_true (by kernel_rfl))
  (Eq.mpr (by kernel_rfl) H)
def MZ(P:Program)(c:Value)(K:KT)(d a:Value)(b:aa)(Z:Value->KT):Prop:=bx c λe=>ak .lss a e λf=>az f (aW 1 c a λg=>af b g λi=>iH d i λj=>ak .add a (I 1) λk=>Z j k b) (K d b)
def M0(P:Program)(a:Value)(h:aa)(K:KT):Prop:=bx a λb=>ak .lss b (I 1) λc=>az c (False) (aW 1 a (I 0) λd=>af h d λe=>bK (σ:=bw [3,4]) (λx hh f=>MZ P a K x.1 x.2.1 hh (λa0 g hz=>f (a0,(g,())) hz)) (e,((I 1),())) h)
theorem aaW(a:Value)(H:M0 Tryz.prog a h K):aE Tryz.prog DJ [a].toArray h K:=
 bT (bA:=(bD (Tryz.f64.body.getD .skip) 0 [(6,[3,4])]).1) (c:=Tryz.f64.body.getD .skip) Tryz.func64 (by kernel_rfl) (by kernel_rfl) (by kernel_rfl) (of_decide_eq_true (by kernel_rfl))
  (Eq.mpr (by kernel_rfl) H)
def M1(P:Program)(d l0 e:Value)(K:KT)(c a:Value)(b:aa)(Z:Value->KT):Prop:=ak .lss a d λf=>az f (aW 1 l0 a λg=>af b g λi=>aS P e [i].toArray b λj k=>cz au (bO [(I 0)] 1) [(0,1,j)] 1 k λl m=>cZ au 1 8 [(I 0)] c l m λn o=>ak .add a (I 1) λp=>Z n p o) (K c b)
def M3(P:Program)(l0 a:Value)(h:aa)(K:KT):Prop:=bx l0 λb=>bK (σ:=bw [4,9]) (λx hh c=>M1 P b l0 a K x.1 x.2.1 hh (λa0 d hz=>c (a0,(d,())) hz)) ((.slice none 0 0),((I 0),())) h
theorem aaX(l0 a:Value)(H:M3 Tryz.prog l0 a h K):aE Tryz.prog KA [l0,a].toArray h K:=
 bT (bA:=(bD (Tryz.f65.body.getD .skip) 0 [(3,[4,9])]).1) (c:=Tryz.f65.body.getD .skip) Tryz.func65 (by kernel_rfl) (by kernel_rfl) (by kernel_rfl) (of_decide_eq_true (by kernel_rfl))
  (Eq.mpr (by kernel_rfl) H)
def M4(P:Program)(h:aa)(K:KT):Prop:=bp h λb c=>aB rL (.map none) c λa d=>aC 1 a b d λu e=>K (.func (.func KS) #[] #[a]) e
theorem aaY(H:M4 Tryz.prog h K):aE Tryz.prog KB [].toArray h K:=
 aO Tryz.func66 (Eq.mpr (by kernel_rfl) H)
def M5(P:Program)(f:aa)(c a:Value)(L:Loop)(g i:Value)(j:aa)(R:Exit->aa->Prop):Prop:=gY (f.size+1) L j λb=>aZ 3 b c λk=>aZ 3 b a λd=>ah P zO [k,g] b λl e=>(aZ 3 e a λm=>m=d)/\(ah P zO [d,i] e λn o=>aC 3 c l o λr p=>aC 3 a n p λs q=>R .normal q)
def M6(P:Program)(k:aa)(b l d i:Value)(m:Loop)(n o:Value)(p:aa)(q:Exit->aa->Prop):Prop:=gY (k.size+1) m p λa=>af a b λe=>af a l λr=>af a d λf=>af a i λj=>aS P r [o].toArray a λs c=>(af c b λt=>t=e)/\(af c d λu=>u=f)/\(af c i λv=>v=j)/\(ak .mul s f λw=>aS P j [n].toArray c λx g=>(af g b λy=>y=e)/\(af g d λz=>z=f)/\(ak .add w x λA=>cz au (bO [(I 0)] 1) [(0,1,A)] 1 g λB C=>cZ au 1 8 [(I 0)] e B C λD E=>aC 1 b D E λG F=>q .normal F))
def M7(P:Program)(g a i:Value)(c:aa)(K:KT)(j k:Value)(l:aa):Prop:=ah P D7 [g] l λm b=>gd P m [40,41] (b.size+1) (b.push (.deferred (some []))) (λL x hh R=>M6 P b a k i j L x.1 x.2.1 hh R) (λd=>af d a λn=>aC 1 a n d λs o=>cH (b.size::(c.size:: [])) o λe=>af e a λp=>K p e) (λq=>cH (b.size::(c.size:: [])) q λf=>af f a λr=>K r f) []
def M8(P:Program)(s aq:Value)(h:aa)(K:KT):Prop:=aB bR (.slice none 0 0) h λl av=>ah P D6 [aq] av λt ax=>aX t 0 λb=>aX t 1 λay=>aB au (I 0) ax λp aA=>aC 1 p ay aA λu v=>ak .eql b (I 0) λaD=>az aD (aC 1 l (.slice none 0 0) v λcr w=>af w l λres=>K res w) (aB gE (.agg #[(I 0),(I 0),(.bool false)]) v λy aE=>aB gE (.agg #[(I 0),(I 0),(.bool false)]) aE λc aF=>ah P D7 [s] aF λaG i=>gd P aG [24,25] (i.size+1) (i.push (.deferred (some []))) (λL x hh R=>M5 P i y c L x.1 x.2.1 hh R) (λd=>eW (σ:=bw [11,12]) (λJ=>aZ 3 d y λj=>af d p λk=>aZ 3 d c λa=>(ah P jc [j,k] d λe m=>(aZ 3 m c λaH=>aH=a)/\((ah P jc [a,b] m λz A=>(aB fV .nilFunc A λB aI=>aB fV .nilFunc aI λC aJ=>aC 1 B e aJ λct aK=>aC 1 C z aK λcu aL=>J (B,(C,())) aL)/\(aB fV .nilFunc A λD aM=>aB fV .nilFunc aM λE aN=>aC 1 E e aN λcv aO=>aC 1 D z aO λcw aP=>J (E,(D,())) aP))/\(aB fV .nilFunc m λn F=>(ah P jc [a,b] F λaQ aR=>aB fV .nilFunc aR λG aS=>aC 1 n e aS λcz aT=>aC 1 G aQ aT λcA aU=>J (n,(G,())) aU)/\(aB fV .nilFunc F λH aV=>ah P jc [a,b] aV λaW aY=>aC 1 n e aY λcB bf=>aC 1 H aW bf λcC bg=>J (n,(H,())) bg))/\(aB fV .nilFunc m λo M=>(ah P jc [a,b] M λbh bk=>aB fV .nilFunc bk λN bl=>aC 1 N e bl λcD bn=>aC 1 o bh bn λcE bp=>J (N,(o,())) bp)/\(aB fV .nilFunc M λO bq=>ah P jc [a,b] bq λbr bt=>aC 1 O e bt λcF bu=>aC 1 o br bu λcG bx=>J (O,(o,())) bx))))/\(aB fV .nilFunc d λf Q=>(ah P jc [j,k] Q λS q=>(aZ 3 q c λbz=>bz=a)/\((ah P jc [a,b] q λbA bB=>aB fV .nilFunc bB λT bC=>aC 1 f S bC λcI bD=>aC 1 T bA bD λcJ bE=>J (f,(T,())) bE)/\(aB fV .nilFunc q λU bF=>ah P jc [a,b] bF λbG bH=>aC 1 f S bH λcK bI=>aC 1 U bG bI λcL bJ=>J (f,(U,())) bJ)))/\(aB fV .nilFunc Q λV bK=>ah P jc [j,k] bK λbL W=>(aZ 3 W c λbM=>bM=a)/\(ah P jc [a,b] W λbN bO=>aC 1 f bL bO λcM bP=>aC 1 V bN bP λcN bQ=>J (f,(V,())) bQ)))/\(aB fV .nilFunc d λg X=>(ah P jc [j,k] X λY r=>(aZ 3 r c λbS=>bS=a)/\((ah P jc [a,b] r λbT bU=>aB fV .nilFunc bU λZ bV=>aC 1 Z Y bV λcO bW=>aC 1 g bT bW λcP bX=>J (Z,(g,())) bX)/\(aB fV .nilFunc r λag bY=>ah P jc [a,b] bY λbZ b5=>aC 1 ag Y b5 λcQ b6=>aC 1 g bZ b6 λcR b7=>J (ag,(g,())) b7)))/\(aB fV .nilFunc X λai b8=>ah P jc [j,k] b8 λb9 aj=>(aZ 3 aj c λcc=>cc=a)/\(ah P jc [a,b] aj λcg cj=>aC 1 ai b9 cj λcS ck=>aC 1 g cg ck λcT cm=>J (ai,(g,())) cm)))) (λx hh=>M7 P s l p i K x.1 x.2.1 hh)) (λcn=>cH (i.size:: []) cn λan=>af an l λcq=>K cq an) [])
theorem aaZ(a b:Value)(H:M8 Tryz.prog a b h K):aE Tryz.prog tw [a,b].toArray h K:=
 bT (bA:=(bD (Tryz.f68.body.getD .skip) 0 [(9,[11,12])]).1) (c:=Tryz.f68.body.getD .skip) Tryz.func68 (by kernel_rfl) (by kernel_rfl) (by kernel_rfl) (of_decide_eq_true (by kernel_rfl))
  (Eq.mpr (by kernel_rfl) H)
def AK(P:Program)(K:KT)(a:aa):Prop:=K (.slice none 0 0) a
def M9(P:Program)(f b c g:Value)(K:KT)(a:Value)(d:aa)(Z:KT):Prop:=ak .lss a f λi=>az i (aW 1 b a λj=>aC 1 j a d λu k=>ak .add a (I 1) λl=>Z l k) (ah P wz [c,b,g] d λp e=>aJ c λm=>aq 1 m λn=>af e n λo=>K o e)
def Na(P:Program)(a b:Value)(h:aa)(K:KT):Prop:=bL false .ptr a (.pointer none) λf=>az f (AK P K h) (ak .lss b (I 1) λg=>az g (AK P K h) (ak .gtr b (I 256) λi=>az i (AK P K h) (ah P ct [a] h λc j=>c9 au 8 [(I 0)] c c j λk l=>aP [(.pointer none),(.slice none 0 0),(I 0)] [(0,1,a),(1,1,k)] λm=>aB ni m l λn o=>ah P ct [a] o λd p=>c9 au 8 [(I 0)] d d p λe q=>bx e λr=>bK (σ:=bw [29]) (λx hh s=>M9 P r e n b K x.1 hh (λa0 hz=>s (a0,()) hz)) ((I 0),()) q)))
theorem aa0(a b:Value)(H:Na Tryz.prog a b h K):aE Tryz.prog wq [a,b].toArray h K:=
 bT (bA:=(bD (Tryz.f69.body.getD .skip) 0 [(8,[29])]).1) (c:=Tryz.f69.body.getD .skip) Tryz.func69 (by kernel_rfl) (by kernel_rfl) (by kernel_rfl) (of_decide_eq_true (by kernel_rfl))
  (Eq.mpr (by kernel_rfl) H)
def Nb(P:Program)(a c:Value)(h:aa)(K:KT):Prop:=ah P ct [a] h λd b=>ak .gtr d (I 0) λe=>az e (ah P D8 [c] b λf g=>bx f λi=>ah P ct [a] g λj k=>ak .eql i j λl=>K l k) (K (.bool false) b)
theorem aa1(a b:Value)(H:Nb Tryz.prog a b h K):aE Tryz.prog zG [a,b].toArray h K:=
 aO Tryz.func70 (Eq.mpr (by kernel_rfl) H)
def FV(P:Program)(K:KT)(a:aa):Prop:=K (.pointer none) a
def AL(P:Program)(a b d:Value)(K:KT)(e:aa):Prop:=ak .mul a b λc=>c9 ki 1 [(.int .u8 0)] c c e λf g=>aP [(I 0),(I 0),(I 0),(.slice none 0 0)] [(0,1,a),(1,1,d),(2,1,b),(3,1,f)] λi=>aB jO i g λj k=>K j k
def Nc(P:Program)(b a:Value)(h:aa)(K:KT):Prop:=ak .lss b (I 0) λd=>az d (FV P K h) (ak .lss a (I 0) λe=>az e (FV P K h) (ak .gtr a (I 67108864) λf=>az f (FV P K h) (ak .add a (I 8) λg=>ak .sub g (I 1) λi=>ak .quo i (I 8) λc=>ak .gtr c (I 0) λj=>az j (ak .quo (I 268435456) c λk=>ak .gtr b k λl=>az l (K (.pointer none) h) (AL P b c a K h)) (AL P b c a K h))))
theorem aa2(a b:Value)(H:Nc Tryz.prog a b h K):aE Tryz.prog DK [a,b].toArray h K:=
 aO Tryz.func71 (Eq.mpr (by kernel_rfl) H)
def Nd(P:Program)(a:Value)(h:aa)(K:KT):Prop:=bL false .ptr a (.pointer none) λb=>az b (K (I 0) h) (aJ a λc=>aq 1 c λd=>af h d λe=>K e h)
theorem aa3(a:Value)(H:Nd Tryz.prog a h K):aE Tryz.prog wu [a].toArray h K:=
 aO Tryz.func72 (Eq.mpr (by kernel_rfl) H)
def Nf(P:Program)(a:Value)(h:aa)(K:KT):Prop:=bL false .ptr a (.pointer none) λb=>az b (K (I 0) h) (aJ a λc=>aq 0 c λd=>aq 3 d λe=>af h e λf=>bx f λg=>K g h)
theorem aa4(a:Value)(H:Nf Tryz.prog a h K):aE Tryz.prog kH [a].toArray h K:=
 aO Tryz.func73 (Eq.mpr (by kernel_rfl) H)
def Ng(P:Program)(a b c:Value)(h:aa)(K:KT):Prop:=aB cq a h λn3 d=>aB mw b d λc4 e=>aB au c e λk5 f=>K (.func (.func D9) #[] #[n3,c4,k5]) f
theorem aa5(a b c:Value)(H:Ng Tryz.prog a b c h K):aE Tryz.prog KC [a,b,c].toArray h K:=
 aO Tryz.func74 (Eq.mpr (by kernel_rfl) H)
def Nh(P:Program)(a b c d:Value)(h:aa)(K:KT):Prop:=aB eA d h λe f=>ah P zQ [a,b,c,(.func (.func KW) #[] #[e])] f λg i=>K g i
theorem aa6(a b c d:Value)(H:Nh Tryz.prog a b c d h K):aE Tryz.prog DL [a,b,c,d].toArray h K:=
 aO Tryz.func75 (Eq.mpr (by kernel_rfl) H)
def Ni(P:Program)(a:Value)(h:aa)(K:KT):Prop:=bp h λb c=>aP [(.slice none 0 0),(.map none)] [(1,1,b)] λd=>iH a (I 0) λe=>aP [(.slice none 0 0),(.map none),(I 0)] [(0,2,d),(2,1,e)] λf=>aB Lq f c λg i=>K g i
theorem aa7(a:Value)(H:Ni Tryz.prog a h K):aE Tryz.prog cP [a].toArray h K:=
 aO Tryz.func76 (Eq.mpr (by kernel_rfl) H)
def Nj(P:Program)(a:aa):Prop:=False
def Nk(P:Program)(a:Value)(K:KT)(b:Value)(c:aa)(Z:KT):Prop:=bx a λd=>ak .lss b d λe=>az e (dY 1 a (some b) none none λf=>dY 1 a none (some b) none λg=>jl 1 f g c λi j=>ak .add b i λk=>Z k j) (K a c)
def Nl(P:Program)(b c:Value)(h:aa)(K:KT):Prop:=ak .lss c (I 0) λi=>az i (False) (bx b λj=>fR .u64 j λk=>fR .u64 c λl=>ah P wA [k,l] h λd a=>aX d 0 λm=>aX d 1 λe=>ak .gtr m (.int .u64 0) λn=>az n (Nj P a) (ak .gtr e (.int .u64 9223372036854775807) λo=>az o (Nj P a) (fR .i64 e λf=>c9 bY 8 [(I 0)] f f a λg p=>jl 1 g b p λq r=>bK (σ:=bw [8]) (λx hh s=>Nk P g K x.1 hh (λa0 hz=>s (a0,()) hz)) (q,()) r)))
theorem aa8(a b:Value)(H:Nl Tryz.prog a b h K):aE Tryz.prog zH [a,b].toArray h K:=
 bT (bA:=(bD (Tryz.f77.body.getD .skip) 0 [(9,[8])]).1) (c:=Tryz.f77.body.getD .skip) Tryz.func77 (by kernel_rfl) (by kernel_rfl) (by kernel_rfl) (of_decide_eq_true (by kernel_rfl))
  (Eq.mpr (by kernel_rfl) H)
def Nn(P:Program)(a:aa):Prop:=False
def No(P:Program)(a:Value)(K:KT)(b:Value)(c:aa)(Z:KT):Prop:=bx a λd=>ak .lss b d λe=>az e (dY 1 a (some b) none none λf=>dY 1 a none (some b) none λg=>jl 1 f g c λi j=>ak .add b i λk=>Z k j) (K a c)
def Np(P:Program)(b c:Value)(h:aa)(K:KT):Prop:=ak .lss c (I 0) λi=>az i (False) (bx b λj=>fR .u64 j λk=>fR .u64 c λl=>ah P wA [k,l] h λd a=>aX d 0 λm=>aX d 1 λe=>ak .gtr m (.int .u64 0) λn=>az n (Nn P a) (ak .gtr e (.int .u64 9223372036854775807) λo=>az o (Nn P a) (fR .i64 e λf=>c9 au 8 [(I 0)] f f a λg p=>jl 1 g b p λq r=>bK (σ:=bw [8]) (λx hh s=>No P g K x.1 hh (λa0 hz=>s (a0,()) hz)) (q,()) r)))
theorem aa9(a b:Value)(H:Np Tryz.prog a b h K):aE Tryz.prog zI [a,b].toArray h K:=
 bT (bA:=(bD (Tryz.f78.body.getD .skip) 0 [(9,[8])]).1) (c:=Tryz.f78.body.getD .skip) Tryz.func78 (by kernel_rfl) (by kernel_rfl) (by kernel_rfl) (of_decide_eq_true (by kernel_rfl))
  (Eq.mpr (by kernel_rfl) H)
end Go.Proofs.YthglofkkjoiepaaGreatDoor

set_option maxRecDepth 100000
namespace Go.Proofs.YthglofkkjoiepaaGreatDoor
open Go Go.Mh
variable{h:aa}{K:KT}
set_option maxHeartbeats 0
def FW(P:Program)(K:KT)(a:aa):Prop:=K (I 2) a
def Nq(P:Program)(a b f:Value)(h:aa)(K:KT):Prop:=bL false .ptr a (.pointer none) λg=>az g (K (I 1) h) (aJ a λi=>aq 0 i λj=>aq 1 j λk=>af h k λl=>de (.int .i64) (I 0) true h l b λc=>aX c 0 λag=>aX c 1 λm=>az m (FW P K h) (ak .lss b (I 0) λn=>az n (FW P K h) (aJ a λo=>aq 2 o λp=>af h p λq=>ak .geq b q λr=>az r (FW P K h) (aJ a λs=>aq 0 s λt=>aq 1 t λv=>af h v λw=>aJ a λx=>aq 0 x λy=>aq 0 y λz=>af h z λA=>bx A λB=>dQ (.int .i64) w b B h λu d=>aJ a λC=>aq 0 C λD=>aq 0 D λE=>af d E λF=>aP [(I 0),(I 0)] [(0,1,b),(1,1,f)] λG=>cz nj (bO [(I 0),(I 0)] 1) [(0,2,G)] 1 d λH J=>cZ nj 2 16 [(I 0),(I 0)] F H J λL M=>aJ a λN=>aq 0 N λO=>aq 0 O λQ=>aC 1 Q L M λai e=>aJ a λR=>aq 0 R λS=>aJ a λT=>aq 0 T λU=>aq 0 U λV=>af e V λW=>bx W λX=>ak .sub X (I 1) λY=>ah P zR [S,Y] e λaj Z=>K (I 0) Z))))
theorem aba(a b c:Value)(H:Nq Tryz.prog a b c h K):aE Tryz.prog oP [a,b,c].toArray h K:=
 aO Tryz.func79 (Eq.mpr (by kernel_rfl) H)
def Nr(P:Program)(a:Value)(h:aa)(K:KT):Prop:=ah P tH [a] h λl b=>ak .eql l (I 0) λm=>az m (K (.tuple #[(I 0),(I 0),(.bool false)]) b) (aJ a λn=>aq 0 n λo=>aq 0 o λp=>af b p λq=>aW 2 q (I 0) λr=>aZ 2 b r λs=>aJ a λt=>aq 0 t λv=>aq 0 v λf=>af b f λg=>bx g λw=>ak .sub w (I 1) λi=>aB nj (.agg #[(I 0),(I 0)]) b λc x=>aC 2 c s x λu j=>(af j f λy=>y=g)/\(aJ a λz=>aq 0 z λA=>ah P wB [A,(I 0),i] j λZ k=>aJ a λB=>aq 0 B λC=>aq 0 C λD=>af k D λE=>dY 2 E none (some i) none λF=>aJ a λG=>aq 0 G λH=>aq 0 H λJ=>aC 1 J F k λag d=>aJ a λL=>aq 0 L λM=>aq 1 M λN=>af d N λO=>aq 0 c λQ=>af d Q λR=>qK (.int .i64) O R d λai S=>aJ a λT=>aq 0 T λU=>ah P Ed [U,(I 0)] S λaj e=>aq 0 c λV=>af e V λW=>aq 1 c λX=>af e X λY=>K (.tuple #[W,Y,(.bool true)]) e))
theorem abb(a:Value)(H:Nr Tryz.prog a h K):aE Tryz.prog oQ [a].toArray h K:=
 aO Tryz.func80 (Eq.mpr (by kernel_rfl) H)
def Ns(P:Program)(a b c:Value)(h:aa)(K:KT):Prop:=aB cq a h λn3 d=>aB bR b d λe f=>aB Aw c f λg i=>K (.func (.func Ee) #[] #[e,n3,g]) i
theorem abc(a b c:Value)(H:Ns Tryz.prog a b c h K):aE Tryz.prog KD [a,b,c].toArray h K:=
 aO Tryz.func81 (Eq.mpr (by kernel_rfl) H)
def AM(P:Program)(b c d:Value)(K:KT)(a:aa):Prop:=aJ b λe=>aq 1 e λf=>aq 1 f λg=>af a g λi=>aW 1 i c λj=>aC 1 j d a λu k=>K (.tuple #[]) k
def AN(P:Program)(f a b d e:Value)(K:KT)(c:aa):Prop:=az f (aJ a λg=>aq 0 g λi=>af c i λj=>ah P qg [j,b,d] c λp k=>AM P a b e K k) (aJ a λl=>aq 0 l λm=>af c m λn=>ah P oP [n,b,d] c λq o=>AM P a b e K o)
def Nt(P:Program)(b c f d:Value)(h:aa)(K:KT):Prop:=aJ b λi=>aq 0 i λj=>af h j λk=>ah P tI [k,c] h λg a=>aX g 0 λl=>aX g 1 λe=>aJ b λm=>aq 4 m λn=>af a n λo=>de (.int .i64) (I 0) false a o c λp=>ak .gtr p (I 0) λq=>az q (K (.tuple #[]) a) (az e (ak .leq l d λr=>az r (K (.tuple #[]) a) (AN P e b c d f K a)) (AN P e b c d f K a))
theorem abd(a b c d:Value)(H:Nt Tryz.prog a b c d h K):aE Tryz.prog DM [a,b,c,d].toArray h K:=
 aO Tryz.func82 (Eq.mpr (by kernel_rfl) H)
def FX(P:Program)(K:KT)(a:aa):Prop:=K (.tuple #[(.slice none 0 0),(.bool false)]) a
def Nu(P:Program)(l0 a:Value)(h:aa)(K:KT):Prop:=ak .lss a (I 0) λb=>az b (FX P K h) (bx l0 λc=>ak .geq a c λd=>az d (FX P K h) (aW 1 l0 a λe=>af h e λf=>K (.tuple #[f,(.bool true)]) h))
theorem abe(l0 a:Value)(H:Nu Tryz.prog l0 a h K):aE Tryz.prog zJ [l0,a].toArray h K:=
 aO Tryz.func83 (Eq.mpr (by kernel_rfl) H)
def AO(P:Program)(b:aa)(s2:Value)(L:Loop)(c:Value)(d:aa)(R:Exit->aa->Prop):Prop:=gY (b.size+1) L d λa=>af a s2 λe=>cz au (bO [(I 0)] 1) [(0,1,c)] 1 a λf g=>cZ au 1 8 [(I 0)] e f g λi j=>aC 1 s2 i j λu k=>R .normal k
def AP(P:Program)(s0 seq1:Value)(h:aa)(K:KT):Prop:=aB bR s0 h λs2 a=>gd P seq1 [7] (a.size+1) (a.push (.deferred (some []))) (λL x hh R=>AO P a s2 L x.1 hh R) (λb=>af b s2 λc=>cH (a.size:: []) b λd=>K c d) (λe=>cH (a.size:: []) e λf=>K (.slice none 0 0) f) []
theorem FY(s0 seq1:Value)(H:AP Tryz.prog s0 seq1 h K):aE Tryz.prog KF [s0,seq1].toArray h K:=
 aO Tryz.func84 (Eq.mpr (by kernel_rfl) H)
def FZ(P:Program)(a:Value)(Z:KT)(b:aa):Prop:=ak .add a (I 1) λc=>Z c b
def Nv(P:Program)(g i j:Value)(K:KT)(a:Value)(c:aa)(Z:KT):Prop:=ak .lss a (I 6) λk=>az k (ou 3 6 g a λl=>aB oR (.agg #[(.bool false),(.bool false),.nilFunc]) c λd m=>aC 3 d l m λu b=>aZ 3 b d λn=>af b i λo=>ah P zC [n,o] b λp e=>az p (aS P j [a].toArray e λq f=>bS .not q λr=>az r (K (.tuple #[]) f) (FZ P a Z f)) (FZ P a Z e)) (K (.tuple #[]) c)
def Nw(P:Program)(c a:Value)(h:aa)(K:KT):Prop:=af h a λd=>ah P zB [d] h λe b=>bS .not e λf=>az f (K (.tuple #[]) b) (ah P vY [] b λg i=>bK (σ:=bw [9]) (λx hh j=>Nv P g a c K x.1 hh (λa0 hz=>j (a0,()) hz)) ((I 0),()) i)
theorem abf(a b:Value)(H:Nw Tryz.prog a b h K):aE Tryz.prog DN [a,b].toArray h K:=
 bT (bA:=(bD (Tryz.f85.body.getD .skip) 0 [(3,[9])]).1) (c:=Tryz.f85.body.getD .skip) Tryz.func85 (by kernel_rfl) (by kernel_rfl) (by kernel_rfl) (of_decide_eq_true (by kernel_rfl))
  (Eq.mpr (by kernel_rfl) H)
def F4(P:Program)(a:Value)(h:aa)(K:KT):Prop:=aB cq a h λn1 b=>K (.func (.func qh) #[] #[n1]) b
theorem Nx(a:Value)(H:F4 Tryz.prog a h K):aE Tryz.prog DO [a].toArray h K:=
 aO Tryz.func86 (Eq.mpr (by kernel_rfl) H)
def Ny(P:Program)(s0 a:Value)(h:aa)(K:KT):Prop:=ah P Ef [s0,a] h λb c=>ak .geq b (I 0) λd=>K d c
theorem abg(s0 a:Value)(H:Ny Tryz.prog s0 a h K):aE Tryz.prog zK [s0,a].toArray h K:=
 aO Tryz.func87 (Eq.mpr (by kernel_rfl) H)
def Nz(P:Program)(m j n:Value)(h:aa)(K:KT):Prop:=aB eO m h λb c=>aq 0 b λo=>af c o λp=>aq 1 b λq=>af c q λr=>aq 2 b λs=>af c s λt=>aP [(I 0),(I 0),(I 0)] [(0,1,p),(1,1,r),(2,1,t)] λv=>aB ZW (.agg #[(I 0),(I 0),(I 0)]) c λf w=>aC 3 f v w λu d=>af d j λe=>aZ 3 d f λg=>de (.array 3 au) (I 0) false d e g λk=>ak .add k (I 1) λx=>j8 (.array 3 au) (I 0) e g d λy l=>(de (.array 3 au) (I 0) false l e g λz=>z=k)/\(aX y 1 λA=>jF e A x l λL i=>af i n λB=>aZ 4 i b λC=>aS P B [C].toArray i λD a=>bS .not D λE=>az E (K (.bool true) a) (af a j λF=>aZ 3 a f λG=>de (.array 3 au) (I 0) false a F G λH=>ak .gtr H (I 1) λJ=>K J a))
theorem abh(a b c:Value)(H:Nz Tryz.prog a b c h K):aE Tryz.prog KG [a,b,c].toArray h K:=
 aO Tryz.func88 (Eq.mpr (by kernel_rfl) H)
def NA(P:Program)(k l e m:Value)(h:aa)(K:KT):Prop:=aB eO k h λb c=>af c l λn=>aZ 4 c b λo=>aS P n [o].toArray c λp a=>bS .not p λq=>az q (K (.bool true) a) (aq 0 b λr=>af a r λs=>ak .eql s (I 0) λt=>az t (aq 1 b λv=>af a v λw=>aq 2 b λx=>af a x λy=>bV 1 2 e w λz=>aC 1 z y a λu A=>K (.bool false) A) (aq 1 b λf=>af a f λg=>bV 1 2 e g λi=>af a i λj=>af a m λB=>aq 2 b λC=>af a C λD=>aq 1 b λE=>af a E λF=>ah P DP [B,D,F] a λG d=>(af d f λH=>H=g)/\(af d i λJ=>J=j)/\(ak .neq j G λL=>K L d)))
theorem abi(a b c d:Value)(H:NA Tryz.prog a b c d h K):aE Tryz.prog KI [a,b,c,d].toArray h K:=
 aO Tryz.func89 (Eq.mpr (by kernel_rfl) H)
def NB(P:Program)(d e f:Value)(h:aa)(K:KT):Prop:=ah P jN [d,e] h λc g=>aX c 0 λi=>aX c 1 λp=>aB cC (.agg #[(I 0),(I 0),(I 0)]) g λb j=>aC 3 b i j λu a=>ak .eql f (I 1) λk=>az k (aq 1 b λl=>af a l λm=>K m a) (aq 0 b λn=>af a n λo=>K o a)
theorem abj(a b c:Value)(H:NB Tryz.prog a b c h K):aE Tryz.prog DP [a,b,c].toArray h K:=
 aO Tryz.func90 (Eq.mpr (by kernel_rfl) H)
def NC(P:Program)(b a:Value)(h:aa)(K:KT):Prop:=ak .geq a (I 0) λc=>az c (ah P ct [b] h λd e=>ak .lss a d λf=>K f e) (K (.bool false) h)
theorem abk(a b:Value)(H:NC Tryz.prog a b h K):aE Tryz.prog DQ [a,b].toArray h K:=
 aO Tryz.func91 (Eq.mpr (by kernel_rfl) H)
def ND(P:Program)(a b c:Value)(h:aa)(K:KT):Prop:=aB cq a h λn3 d=>aB au b d λe f=>aB bR c f λg i=>K (.func (.func Eg) #[] #[g,n3,e]) i
theorem abl(a b c:Value)(H:ND Tryz.prog a b c h K):aE Tryz.prog KJ [a,b,c].toArray h K:=
 aO Tryz.func92 (Eq.mpr (by kernel_rfl) H)
def NF(P:Program)(a:Value)(h:aa)(K:KT):Prop:=bL false .ptr a (.pointer none) λb=>az b (K (I 0) h) (aJ a λc=>aq 0 c λd=>af h d λe=>K e h)
theorem abm(a:Value)(H:NF Tryz.prog a h K):aE Tryz.prog qe [a].toArray h K:=
 aO Tryz.func93 (Eq.mpr (by kernel_rfl) H)
def NG(P:Program)(a:Value)(h:aa)(K:KT):Prop:=bL false .ptr a (.pointer none) λb=>az b (K (.slice none 0 0) h) (aJ a λc=>aq 1 c λd=>af h d λe=>ah P nS [e] h λf g=>K f g)
theorem abn(a:Value)(H:NG Tryz.prog a h K):aE Tryz.prog qf [a].toArray h K:=
 aO Tryz.func94 (Eq.mpr (by kernel_rfl) H)
def NH(P:Program)(b c a:Value)(h:aa)(K:KT):Prop:=ah P zG [b,c] h λd e=>bL true .ptr a (.pointer none) λf=>ah P wC [a] e λg i=>ah P wu [c] i λj k=>ak .eql g j λl=>ah P tJ [a] k λm n=>ah P kH [b] n λo p=>ak .eql m o λq=>cz eA (bO [(.bool false)] 4) [(0,1,d),(1,1,f),(2,1,l),(3,1,q)] 4 p λr s=>ah P Eh [r] s λt u=>K t u
theorem abo(a b c:Value)(H:NH Tryz.prog a b c h K):aE Tryz.prog zL [a,b,c].toArray h K:=
 aO Tryz.func95 (Eq.mpr (by kernel_rfl) H)
def NI(P:Program)(b f:Value)(h:aa)(K:KT):Prop:=aB eG f h λg i=>aB eB (.agg #[(I 0),(I 0),(.slice none 0 0),(.slice none 0 0)]) i λc a=>aJ b λj=>aq 0 j λk=>af a k λl=>aJ b λm=>aq 1 m λn=>af a n λo=>aJ b λp=>aq 2 p λq=>af a q λr=>aJ b λs=>aq 3 s λt=>af a t λv=>aP [(.pointer none),(.pointer none)] [(0,1,r),(1,1,v)] λw=>aZ 4 a g λx=>ah P DR [l,o,w,x] a λd y=>aX d 0 λz=>aX d 1 λA=>aC 4 c z y λu e=>aZ 4 e c λres=>K (.tuple #[res,A]) e
theorem abp(a b:Value)(H:NI Tryz.prog a b h K):aE Tryz.prog tA [a,b].toArray h K:=
 aO Tryz.func96 (Eq.mpr (by kernel_rfl) H)
def NJ(P:Program)(b:aa)(c d:Value)(L:Loop)(e f:Value)(g:aa)(R:Exit->aa->Prop):Prop:=gY (b.size+1) L g λi=>aS P f [].toArray i λj a=>bS .not j λk=>az k (aP [(I 0),(I 0),(.slice none 0 0),(.slice none 0 0)] [(0,1,e)] λl=>aC 4 c l a λu m=>aC 1 d (.slice none 0 0) m λo n=>R .ret n) (R .normal a)
def NK(P:Program)(c d:Value)(g:aa)(K:KT)(o b:Value)(a:aa):Prop:=aq 0 b λp=>af a p λq=>ak .geq q (I 72057594037927936) λr=>az r (aP [(I 0),(I 0),(.slice none 0 0),(.slice none 0 0)] [(0,1,(I 20))] λs=>aq 2 b λi=>af a i λj=>aC 4 c s a λG k=>(af k i λt=>t=j)/\(aC 1 d j k λH u=>cH (g.size:: []) u λe=>aZ 4 e c λv=>af e d λw=>K (.tuple #[v,w]) e)) (aq 0 b λx=>af a x λy=>aq 1 b λz=>af a z λA=>aP [(I 0),(I 0),(.slice none 0 0),(.slice none 0 0)] [(1,1,y),(2,1,A),(3,1,o)] λB=>aq 2 b λl=>af a l λm=>aC 4 c B a λJ n=>(af n l λC=>C=m)/\(aC 1 d m n λL D=>cH (g.size:: []) D λf=>aZ 4 f c λE=>af f d λF=>K (.tuple #[E,F]) f))
def NL(P:Program)(i V p2 W:Value)(h:aa)(K:KT):Prop:=aB tX p2 h λq X=>aB eG W X λc Y=>aB eB (.agg #[(I 0),(I 0),(.slice none 0 0),(.slice none 0 0)]) Y λj Z=>aB nW (.slice none 0 0) Z λk r=>aZ 2 r q λag=>aZ 4 r c λai=>aP [(.pointer none),(.pointer none),(.pointer none),(.pointer none),(I 0),(I 0),(I 0),(I 0)] [(0,2,ag),(2,1,i),(3,1,V),(4,4,ai)] λaj=>aB Ay aj r λs an=>ah P KX [s] an λau e=>gd P au [25,26] (e.size+1) (e.push (.deferred (some []))) (λL x hh R=>NJ P e j k L x.1 x.2.1 hh R) (λn=>aq 1 c λav=>af n av λax=>aq 2 c λay=>af n ay λaA=>ak .eql ax aA λaD=>az aD (aP [(I 0),(I 0),(.slice none 0 0),(.slice none 0 0)] [] λaE=>aC 4 j aE n λbT aF=>aC 1 k (.slice none 0 0) aF λbU aG=>cH (e.size:: []) aG λt=>aZ 4 t j λres=>af t k λaH=>K (.tuple #[res,aH]) t) (bp n λu aI=>dQ (.int .i64) u (I 4) (.func (.func zS) #[s] #[]) aI λbV aJ=>dQ (.int .i64) u (I 5) (.func (.func Ei) #[s] #[]) aJ λbW v=>aq 0 c λaK=>af v aK λaL=>de (.int .i64) .nilFunc false v u aL λaM=>aS P aM [].toArray v λC d=>aX C 0 λaN=>aX C 1 λw=>eW (σ:=bw [15]) (λJ=>aq 1 c λf=>af d f λa=>aq 2 c λg=>af d g λb=>aq 1 q λy=>af d y λl=>aq 0 q λaO=>af d aO λD=>aq 2 c λaQ=>af d aQ λE=>(ah P rD [D,E] d λF m=>(af m f λaR=>aR=a)/\(af m g λaT=>aT=b)/\(af m y λaU=>aU=l)/\((ah P tK [l,F] m λaV o=>(af o f λaW=>aW=a)/\(af o g λaY=>aY=b)/\(aP [(I 0),(I 0),(.slice none 0 0),(.slice none 0 0)] [(0,1,a),(1,1,b),(2,1,aV),(3,1,w)] λG=>(ah P kI [i,G] o λH bf=>aX H 0 λbg=>aX H 1 λbX=>aB dJ (.agg #[(I 0),(.slice none 0 0),(.slice none 0 0)]) bf λM bh=>aC 3 M bg bh λbY bk=>J (M,()) bk)/\(aB dJ (.agg #[(I 0),(.slice none 0 0),(.slice none 0 0)]) o λN bl=>ah P kI [i,G] bl λO bn=>aX O 0 λbq=>aX O 1 λbZ=>aC 3 N bq bn λb5 br=>J (N,()) br)))/\(aB dJ (.agg #[(I 0),(.slice none 0 0),(.slice none 0 0)]) m λQ bt=>ah P tK [l,F] bt λbu z=>(af z f λbx=>bx=a)/\(af z g λbz=>bz=b)/\(aP [(I 0),(I 0),(.slice none 0 0),(.slice none 0 0)] [(0,1,a),(1,1,b),(2,1,bu),(3,1,w)] λbA=>ah P kI [i,bA] z λS bB=>aX S 0 λbC=>aX S 1 λb6=>aC 3 Q bC bB λb7 bD=>J (Q,()) bD))))/\(aB dJ (.agg #[(I 0),(.slice none 0 0),(.slice none 0 0)]) d λT bE=>ah P rD [D,E] bE λbF p=>(af p f λbG=>bG=a)/\(af p g λbH=>bH=b)/\(af p y λbI=>bI=l)/\(ah P tK [l,bF] p λbJ A=>(af A f λbK=>bK=a)/\(af A g λbL=>bL=b)/\(aP [(I 0),(I 0),(.slice none 0 0),(.slice none 0 0)] [(0,1,a),(1,1,b),(2,1,bJ),(3,1,w)] λbM=>ah P kI [i,bM] A λU bN=>aX U 0 λbO=>aX U 1 λb8=>aC 3 T bO bN λb9 bP=>J (T,()) bP)))) (λx hh=>NK P j k e K aN x.1 hh))) (λbQ=>cH (e.size:: []) bQ λB=>aZ 4 B j λbR=>af B k λbS=>K (.tuple #[bR,bS]) B) []
theorem abq(a b p2 d:Value)(H:NL Tryz.prog a b p2 d h K):aE Tryz.prog DR [a,b,p2,d].toArray h K:=
 bT (bA:=(bD (Tryz.f97.body.getD .skip) 0 [(11,[15])]).1) (c:=Tryz.f97.body.getD .skip) Tryz.func97 (by kernel_rfl) (by kernel_rfl) (by kernel_rfl) (of_decide_eq_true (by kernel_rfl))
  (Eq.mpr (by kernel_rfl) H)
def F5(P:Program)(a:Value)(h:aa)(K:KT):Prop:=aB rM a h λb c=>K (.func (.func wD) #[] #[b]) c
theorem NM(a:Value)(H:F5 Tryz.prog a h K):aE Tryz.prog DT [a].toArray h K:=
 aO Tryz.func98 (Eq.mpr (by kernel_rfl) H)
def NN(P:Program)(b:Value)(K:KT)(c m n:Value)(a:aa):Prop:=az n (aP [(I 0),(.slice none 0 0),(.slice none 0 0)] [] λo=>aC 3 b o a λF e=>aZ 3 e b λp=>K (.tuple #[p,(I 2)]) e) (aq 0 c λq=>af a q λr=>aq 1 c λs=>af a s λt=>ak .eql r t λu=>az u (aP [(I 0),(.slice none 0 0),(.slice none 0 0)] [] λv=>aC 3 b v a λG f=>aZ 3 f b λw=>K (.tuple #[w,(I 0)]) f) (af a m λx=>aZ 4 a c λy=>aq 0 c λg=>af a g λi=>aq 1 c λj=>af a j λk=>ah P El [x,y] a λz d=>(af d g λA=>A=i)/\(af d j λB=>B=k)/\(ah P Em [z,i,k] d λC D=>aC 3 b C D λH l=>aZ 3 l b λE=>K (.tuple #[E,(I 0)]) l)))
def NO(P:Program)(p q:Value)(h:aa)(K:KT):Prop:=aB cq p h λa r=>aB iM q r λb s=>aB dJ (.agg #[(I 0),(.slice none 0 0),(.slice none 0 0)]) s λf c=>af c a λt=>bL false .ptr t (.pointer none) λv=>az v (aP [(I 0),(.slice none 0 0),(.slice none 0 0)] [] λw=>aC 3 f w c λu i=>aZ 3 i f λres=>K (.tuple #[res,(I 1)]) i) (eW (σ:=bw [12]) (λJ=>aq 0 b λy=>af c y λz=>aS P (.func (.func zT) #[] #[a]) [z].toArray c λA g=>bS .not A λB=>az B (J ((.bool true),()) g) (aq 1 b λC=>af g C λD=>aS P (.func (.func zT) #[] #[a]) [D].toArray g λE d=>bS .not E λF=>az F (J ((.bool true),()) d) (aq 2 b λj=>af d j λk=>af d a λG=>ah P kH [G] d λH l=>(af l j λL=>L=k)/\(ah P Ej [k,H] l λM e=>bS .not M λN=>az N (J ((.bool true),()) e) (aq 3 b λm=>af e m λn=>af e a λO=>ah P ct [O] e λQ o=>(af o m λR=>R=n)/\(ah P Ek [n,Q] o λS T=>bS .not S λU=>J (U,()) T)))))) (λx hh=>NN P f K b a x.1 hh))
theorem abr(a b:Value)(H:NO Tryz.prog a b h K):aE Tryz.prog kI [a,b].toArray h K:=
 bT (bA:=(bD (Tryz.f99.body.getD .skip) 0 [(5,[12])]).1) (c:=Tryz.f99.body.getD .skip) Tryz.func99 (by kernel_rfl) (by kernel_rfl) (by kernel_rfl) (of_decide_eq_true (by kernel_rfl))
  (Eq.mpr (by kernel_rfl) H)
end Go.Proofs.YthglofkkjoiepaaGreatDoor

set_option maxRecDepth 100000
namespace Go.Proofs.YthglofkkjoiepaaGreatDoor
open Go Go.Mh
variable{h:aa}{K:KT}
set_option maxHeartbeats 0
def AQ(P:Program)(d a:Value)(K:KT)(b:aa):Prop:=aJ d λe=>aq 7 e λf=>aZ 3 b f λg=>aC 3 a g b λj c=>aZ 3 c a λi=>K (.tuple #[i,(I 0)]) c
def NP(P:Program)(a d:Value)(K:KT)(e:Value)(b:aa)(Z:KT):Prop:=bL true .ptr e (.pointer none) λk=>az k (ah P zU [a,e] b λX l=>ah P wF [a] l λm n=>Z m n) (aJ a λo=>aq 7 o λp=>aq 0 p λq=>af b q λr=>ak .lss r (I 72057594037927936) λs=>az s (aJ a λt=>aq 5 t λu=>bV 1 2 u (I 0) λv=>af b v λw=>ah P wG [a,w] b λx y=>aJ a λz=>aq 7 z λA=>aq 1 A λB=>aC 1 B x y λY f=>aJ a λC=>aq 7 C λD=>aq 1 D λE=>af f E λF=>ah P zV [F] f λag c=>aJ a λG=>aq 7 G λH=>aq 1 H λg=>af c g λi=>aJ a λJ=>aq 5 J λL=>bV 1 2 L (I 1) λM=>af c M λN=>ah P wG [a,N] c λO j=>(af j g λQ=>Q=i)/\(cZ au 1 8 [(I 0)] i O j λR S=>aJ a λT=>aq 7 T λU=>aq 1 U λV=>aC 1 V R S λai W=>AQ P a d K W)) (AQ P a d K b))
def NQ(P:Program)(e o:Value)(h:aa)(K:KT):Prop:=aB iM o h λa p=>aB dJ (.agg #[(I 0),(.slice none 0 0),(.slice none 0 0)]) p λc f=>bL false .ptr e (.pointer none) λq=>az q (aP [(I 0),(.slice none 0 0),(.slice none 0 0)] [] λr=>aC 3 c r f λu j=>aZ 3 j c λres=>K (.tuple #[res,(I 1)]) j) (aZ 4 f a λs=>ah P En [e,s] f λt d=>bS .not t λv=>az v (aP [(I 0),(.slice none 0 0),(.slice none 0 0)] [] λw=>aC 3 c w d λax k=>aZ 3 k c λy=>K (.tuple #[y,(I 2)]) k) (aq 0 a λz=>af d z λA=>aq 1 a λB=>af d B λC=>ak .eql A C λD=>az D (aP [(I 0),(.slice none 0 0),(.slice none 0 0)] [] λE=>aC 3 c E d λay l=>aZ 3 l c λF=>K (.tuple #[F,(I 0)]) l) (aZ 4 d a λG=>aP [(I 0),(.slice none 0 0),(.slice none 0 0)] [(0,1,(I 72057594037927936))] λH=>aP [(.pointer none),(I 0),(I 0),(.slice none 0 0),(.slice none 0 0),(.pointer none),(.pointer none),(I 0),(.slice none 0 0),(.slice none 0 0),(I 0)] [(0,1,e),(1,4,G),(7,3,H)] λJ=>aB iD J d λb m=>aq 0 a λL=>af m L λM=>ah P wE [b,(I 0),M,(I 1),(.func (.func rz) #[e] #[]),(.func (.func Eo) #[] #[])] m λaA n=>aq 1 a λN=>af n N λO=>ah P wE [b,(I 1),O,(I (-1)),(.func (.func rC) #[e] #[]),(.func (.func Ep) #[] #[])] n λaD g=>aJ b λQ=>aq 5 Q λR=>bV 1 2 R (I 0) λS=>af g S λT=>aq 0 a λU=>af g U λV=>ah P rE [b,T,V,(I (-1)),(I 0)] g λaE i=>aJ b λW=>aq 5 W λX=>bV 1 2 X (I 1) λY=>af i Y λZ=>aq 1 a λag=>af i ag λai=>ah P rE [b,Z,ai,(I (-1)),(I 0)] i λaF aj=>ah P wF [b] aj λan au=>bK (σ:=bw [7]) (λx hh av=>NP P b c K x.1 hh (λa0 hz=>av (a0,()) hz)) (an,()) au)))
theorem abt(a b:Value)(H:NQ Tryz.prog a b h K):aE Tryz.prog nT [a,b].toArray h K:=
 bT (bA:=(bD (Tryz.f100.body.getD .skip) 0 [(15,[7])]).1) (c:=Tryz.f100.body.getD .skip) Tryz.func100 (by kernel_rfl) (by kernel_rfl) (by kernel_rfl) (of_decide_eq_true (by kernel_rfl))
  (Eq.mpr (by kernel_rfl) H)
def NR(P:Program)(b f:Value)(h:aa)(K:KT):Prop:=aB eG f h λg i=>aB eB (.agg #[(I 0),(I 0),(.slice none 0 0),(.slice none 0 0)]) i λc a=>aJ b λj=>aq 0 j λk=>af a k λl=>aJ b λm=>aq 1 m λn=>af a n λo=>aZ 4 a g λp=>ah P DV [l,o,p] a λd q=>aX d 0 λr=>aX d 1 λs=>aC 4 c r q λu e=>aZ 4 e c λres=>K (.tuple #[res,s]) e
theorem abu(a b:Value)(H:NR Tryz.prog a b h K):aE Tryz.prog DU [a,b].toArray h K:=
 aO Tryz.func101 (Eq.mpr (by kernel_rfl) H)
def NS(P:Program)(c a:Value)(K:KT)(d:aa):Prop:=aP [(I 0),(I 0),(.slice none 0 0),(.slice none 0 0)] [(0,1,c)] λe=>aC 4 a e d λu b=>aZ 4 b a λres=>K (.tuple #[res,(.slice none 0 0)]) b
def NT(P:Program)(c:Value)(K:KT)(k b:Value)(a:aa):Prop:=aq 0 b λl=>af a l λm=>ak .geq m (I 72057594037927936) λn=>az n (aP [(I 0),(I 0),(.slice none 0 0),(.slice none 0 0)] [(0,1,(I 20))] λo=>aq 2 b λf=>af a f λg=>aC 4 c o a λy d=>(af d f λp=>p=g)/\(aZ 4 d c λq=>K (.tuple #[q,g]) d)) (aq 0 b λr=>af a r λs=>aq 1 b λt=>af a t λu=>aP [(I 0),(I 0),(.slice none 0 0),(.slice none 0 0)] [(1,1,s),(2,1,u),(3,1,k)] λv=>aq 2 b λi=>af a i λj=>aC 4 c v a λz e=>(af e i λw=>w=j)/\(aZ 4 e c λx=>K (.tuple #[x,j]) e))
def NU(P:Program)(d e z:Value)(h:aa)(K:KT):Prop:=aB eG z h λa A=>aB eB (.agg #[(I 0),(I 0),(.slice none 0 0),(.slice none 0 0)]) A λj p=>aZ 4 p a λB=>ah P Es [d,e,B] p λk b=>ak .neq k (I 0) λC=>az C (NS P k j K b) (aq 1 a λD=>af b D λE=>aq 2 a λF=>af b F λG=>ak .eql E G λH=>az H (NS P k j K b) (aq 1 a λL=>af b L λM=>aq 2 a λN=>af b N λO=>aq 3 a λQ=>af b Q λR=>ah P wH [e,M,O,R] b λl c=>eW (σ:=bw [10]) (λJ=>aq 1 a λm=>af c m λf=>aq 2 a λn=>af c n λg=>aq 2 a λS=>af c S λq=>(ah P wJ [e,l,q] c λT i=>(af i m λU=>U=f)/\(af i n λV=>V=g)/\(aP [(I 0),(I 0),(.slice none 0 0),(.slice none 0 0)] [(0,1,f),(1,1,g),(3,1,T)] λr=>(ah P kI [d,r] i λs W=>aX s 0 λX=>aX s 1 λaG=>aB dJ (.agg #[(I 0),(.slice none 0 0),(.slice none 0 0)]) W λt Y=>aC 3 t X Y λaH Z=>J (t,()) Z)/\(aB dJ (.agg #[(I 0),(.slice none 0 0),(.slice none 0 0)]) i λu ag=>ah P kI [d,r] ag λv ai=>aX v 0 λaj=>aX v 1 λaI=>aC 3 u aj ai λaJ an=>J (u,()) an)))/\(aB dJ (.agg #[(I 0),(.slice none 0 0),(.slice none 0 0)]) c λw au=>ah P wJ [e,l,q] au λav o=>(af o m λax=>ax=f)/\(af o n λay=>ay=g)/\(aP [(I 0),(I 0),(.slice none 0 0),(.slice none 0 0)] [(0,1,f),(1,1,g),(3,1,av)] λaA=>ah P kI [d,aA] o λy aD=>aX y 0 λaE=>aX y 1 λaK=>aC 3 w aE aD λaL aF=>J (w,()) aF))) (λx hh=>NT P j K l x.1 hh)))
theorem abv(a b d:Value)(H:NU Tryz.prog a b d h K):aE Tryz.prog DV [a,b,d].toArray h K:=
 bT (bA:=(bD (Tryz.f102.body.getD .skip) 0 [(6,[10])]).1) (c:=Tryz.f102.body.getD .skip) Tryz.func102 (by kernel_rfl) (by kernel_rfl) (by kernel_rfl) (of_decide_eq_true (by kernel_rfl))
  (Eq.mpr (by kernel_rfl) H)
def NV(P:Program)(b f:Value)(h:aa)(K:KT):Prop:=aB eG f h λg i=>aB eB (.agg #[(I 0),(I 0),(.slice none 0 0),(.slice none 0 0)]) i λc a=>aJ b λj=>aq 0 j λk=>af a k λl=>aJ b λm=>aq 1 m λn=>af a n λo=>aZ 4 a g λp=>ah P DX [l,o,p] a λd q=>aX d 0 λr=>aX d 1 λs=>aC 4 c r q λu e=>aZ 4 e c λres=>K (.tuple #[res,s]) e
theorem abw(a b:Value)(H:NV Tryz.prog a b h K):aE Tryz.prog DW [a,b].toArray h K:=
 aO Tryz.func103 (Eq.mpr (by kernel_rfl) H)
def NW(P:Program)(a:Value)(h:aa)(K:KT):Prop:=aq 0 a λb=>af h b λc=>ah P zM [(I 5),c,(I 1),(I 16777217)] h λd e=>K d e
theorem abx(a:Value)(H:NW Tryz.prog a h K):aE Tryz.prog tB [a].toArray h K:=
 aO Tryz.func105 (Eq.mpr (by kernel_rfl) H)
def NX(P:Program)(a n1 b c:Value)(h:aa)(K:KT):Prop:=aP [(I 0),(I 0),(I 0),(I 0),(I 0),(I 0)] [(0,1,(I 0)),(1,1,(I 0)),(2,1,a),(3,1,n1),(4,1,b),(5,1,c)] λd=>cz lE (bO [(I 0),(I 0),(I 0),(I 0),(I 0),(I 0)] 1) [(0,6,d)] 1 h λe f=>ah P zX [e] f λg i=>K g i
theorem aby(a n1 b c:Value)(H:NX Tryz.prog a n1 b c h K):aE Tryz.prog zM [a,n1,b,c].toArray h K:=
 aO Tryz.func106 (Eq.mpr (by kernel_rfl) H)
def NY(P:Program)(a:Value)(h:aa)(K:KT):Prop:=aZ 4 h a λb=>ah P DY [b] h λc d=>K c d
theorem abz(a:Value)(H:NY Tryz.prog a h K):aE Tryz.prog tC [a].toArray h K:=
 aO Tryz.func107 (Eq.mpr (by kernel_rfl) H)
def NZ(P:Program)(d:Value)(h:aa)(K:KT):Prop:=aB cN d h λc a=>aq 0 c λe=>af a e λb=>aq 1 c λf=>af a f λg=>bx g λi=>ak .add b (I 1) λj=>aP [(I 0),(I 0),(I 0),(I 0),(I 0),(I 0)] [(0,1,(I 0)),(1,1,(I 0)),(2,1,(I 6)),(3,1,i),(4,1,b),(5,1,j)] λk=>aq 2 c λl=>af a l λm=>bx m λn=>ak .add b (I 1) λo=>aP [(I 0),(I 0),(I 0),(I 0),(I 0),(I 0)] [(0,1,(I 0)),(1,1,(I 1)),(2,1,(I 6)),(3,1,n),(4,1,b),(5,1,o)] λp=>cz lE (bO [(I 0),(I 0),(I 0),(I 0),(I 0),(I 0)] 2) [(0,6,k),(6,6,p)] 2 a λq r=>ah P zX [q] r λs t=>K s t
theorem abA(a:Value)(H:NZ Tryz.prog a h K):aE Tryz.prog DY [a].toArray h K:=
 aO Tryz.func108 (Eq.mpr (by kernel_rfl) H)
def N0(P:Program)(a:Value)(h:aa)(K:KT):Prop:=aZ 4 h a λb=>ah P KL [b] h λc d=>K c d
theorem abB(a:Value)(H:N0 Tryz.prog a h K):aE Tryz.prog tD [a].toArray h K:=
 aO Tryz.func109 (Eq.mpr (by kernel_rfl) H)
def N1(P:Program)(a:Value)(h:aa)(K:KT):Prop:=aB cN a h λb c=>K (.func (.func Eu) #[] #[b]) c
theorem abC(a:Value)(H:N1 Tryz.prog a h K):aE Tryz.prog KL [a].toArray h K:=
 aO Tryz.func110 (Eq.mpr (by kernel_rfl) H)
def N2(P:Program)(a:Value)(h:aa)(K:KT):Prop:=aq 3 a λb=>af h b λc=>bx c λd=>ah P zM [(I 8),d,(I 0),(I 67108865)] h λe f=>K e f
theorem abD(a:Value)(H:N2 Tryz.prog a h K):aE Tryz.prog tE [a].toArray h K:=
 aO Tryz.func111 (Eq.mpr (by kernel_rfl) H)
def N3(P:Program)(a:Value)(h:aa)(K:KT):Prop:=aZ 4 h a λb=>ah P KN [b] h λc d=>K c d
theorem abE(a:Value)(H:N3 Tryz.prog a h K):aE Tryz.prog tF [a].toArray h K:=
 aO Tryz.func112 (Eq.mpr (by kernel_rfl) H)
def N4(P:Program)(a:Value)(h:aa)(K:KT):Prop:=aB cN a h λb c=>K (.func (.func Ew) #[] #[b]) c
theorem abF(a:Value)(H:N4 Tryz.prog a h K):aE Tryz.prog KN [a].toArray h K:=
 aO Tryz.func113 (Eq.mpr (by kernel_rfl) H)
def N5(P:Program)(b c e:Value)(h:aa)(K:KT):Prop:=af h c λd=>de (.int .i64) (I 0) false h d b λf=>ak .add f (I 1) λg=>dQ (.int .i64) d b g h λu a=>ak .lss b (I 0) λi=>az i (K (.bool true) a) (af a e λj=>ak .geq b j λk=>az k (K (.bool true) a) (af a c λl=>de (.int .i64) (I 0) false a l b λm=>ak .gtr m (I 1) λn=>K n a))
theorem abG(a b c:Value)(H:N5 Tryz.prog a b c h K):aE Tryz.prog KO [a,b,c].toArray h K:=
 aO Tryz.func118 (Eq.mpr (by kernel_rfl) H)
def F6(P:Program)(s0 a:Value)(h:aa)(K:KT):Prop:=ah P zY [s0,a] h λb c=>ak .geq b (I 0) λd=>K d c
theorem N6(s0 a:Value)(H:F6 Tryz.prog s0 a h K):aE Tryz.prog zN [s0,a].toArray h K:=
 aO Tryz.func119 (Eq.mpr (by kernel_rfl) H)
def N7(P:Program)(b:aa)(s2:Value)(L:Loop)(c:Value)(d:aa)(R:Exit->aa->Prop):Prop:=gY (b.size+1) L d λa=>af a s2 λe=>cz gj (bO [(.slice none 0 0)] 1) [(0,1,c)] 1 a λf g=>cZ gj 1 24 [(.slice none 0 0)] e f g λi j=>aC 1 s2 i j λu k=>R .normal k
def N8(P:Program)(s0 seq1:Value)(h:aa)(K:KT):Prop:=aB rK s0 h λs2 a=>gd P seq1 [7] (a.size+1) (a.push (.deferred (some []))) (λL x hh R=>N7 P a s2 L x.1 hh R) (λb=>af b s2 λc=>cH (a.size:: []) b λd=>K c d) (λe=>cH (a.size:: []) e λf=>K (.slice none 0 0) f) []
theorem abH(s0 seq1:Value)(H:N8 Tryz.prog s0 seq1 h K):aE Tryz.prog KQ [s0,seq1].toArray h K:=
 aO Tryz.func120 (Eq.mpr (by kernel_rfl) H)
def N9(P:Program)(d e f g i:Value)(K:KT)(b:Value)(a:aa)(Z:KT):Prop:=ak .lss b d λj=>az j (aW 1 e b λk=>af a k λl=>af a f λm=>af a g λn=>aS P m [n,l].toArray a λo p=>lV 0 o λq=>aS P i [q].toArray p λr c=>bS .not r λs=>az s (K (.tuple #[]) c) (ak .add b (I 1) λt=>Z t c)) (K (.tuple #[]) a)
def Oa(P:Program)(b c d e:Value)(h:aa)(K:KT):Prop:=af h c λa=>bx a λf=>bK (σ:=bw [9]) (λx hh g=>N9 P f a d e b K x.1 hh (λa0 hz=>g (a0,()) hz)) ((I 0),()) h
theorem abI(a b d e:Value)(H:Oa Tryz.prog a b d e h K):aE Tryz.prog DZ [a,b,d,e].toArray h K:=
 bT (bA:=(bD (Tryz.f121.body.getD .skip) 0 [(1,[9])]).1) (c:=Tryz.f121.body.getD .skip) Tryz.func121 (by kernel_rfl) (by kernel_rfl) (by kernel_rfl) (of_decide_eq_true (by kernel_rfl))
  (Eq.mpr (by kernel_rfl) H)
def Ob(P:Program)(a c:Value)(h:aa)(K:KT):Prop:=bL false .ptr a (.pointer none) λd=>az d (K (.slice none 0 0) h) (aJ a λe=>aq 5 e λf=>af h f λg=>ah P zJ [g,c] h λb i=>aX b 0 λj=>aX b 1 λm=>ah P nS [j] i λk l=>K k l)
theorem abJ(a b:Value)(H:Ob Tryz.prog a b h K):aE Tryz.prog rC [a,b].toArray h K:=
 aO Tryz.func122 (Eq.mpr (by kernel_rfl) H)
def Oc(P:Program)(a0:Value)(h:aa)(K:KT):Prop:=aB cC a0 h λb a=>aq 0 b λc=>af a c λd=>K d a
theorem abK(a0:Value)(H:Oc Tryz.prog a0 h K):aE Tryz.prog D0 [a0].toArray h K:=
 aO Tryz.func123 (Eq.mpr (by kernel_rfl) H)
def Od(P:Program)(a b:Value)(h:aa)(K:KT):Prop:=aB cq a h λc d=>aB au b d λe f=>K (.func (.func Ey) #[] #[c,e]) f
theorem abL(a b:Value)(H:Od Tryz.prog a b h K):aE Tryz.prog KR [a,b].toArray h K:=
 aO Tryz.func124 (Eq.mpr (by kernel_rfl) H)
end Go.Proofs.YthglofkkjoiepaaGreatDoor

set_option maxRecDepth 100000
namespace Go.Proofs.YthglofkkjoiepaaGreatDoor
open Go Go.Mh
variable{h:aa}{K:KT}
set_option maxHeartbeats 0
def F8(P:Program)(K:KT)(a:aa):Prop:=K (I 0) a
def Of(P:Program)(a n1:Value)(h:aa)(K:KT):Prop:=ak .lss n1 (I 1) λd=>az d (F8 P K h) (ah P EC [a] h λe b=>ak .eql e (I 0) λf=>az f (F8 P K b) (aJ a λg=>aq 0 g λi=>af b i λj=>ah P KY [j] b λc k=>aX c 0 λl=>aX c 1 λm=>aJ a λn=>aq 0 n λo=>aC 1 o m k λu p=>fR .i64 l λq=>ak .rem q n1 λr=>K r p))
theorem abR(a n1:Value)(H:Of Tryz.prog a n1 h K):aE Tryz.prog tG [a,n1].toArray h K:=
 aO Tryz.func125 (Eq.mpr (by kernel_rfl) H)
def Og(P:Program)(c a:Value)(K:KT)(d:aa)(Z:aa->Prop):Prop:=ah P EE [c,(.func (.func Ab) #[] #[a])] d λe b=>az e (af b a λf=>ak .add f (I 1) λg=>aC 1 a g b λk i=>Z i) (af b a λj=>K j b)
def Oh(P:Program)(b d:Value)(K:KT)(e:Value)(c:aa)(f:KT):Prop:=ak .geq e (I 0) λg=>az g (aC 1 b e c λs a=>aJ d λi=>aq 3 i λj=>af a j λk=>af a b λl=>de (.int .i64) (.slice none 0 0) false a k l λm=>ah P tN [m] a λn o=>ah P z8 [n,(.func (.func Aa) #[d] #[])] o λp q=>f p q) (af c b λr=>K r c)
def Oi(P:Program)(g e i:Value)(h:aa)(K:KT):Prop:=ah P ED [g,e,i] h λc f=>aJ c λj=>aq 0 j λk=>aq 2 k λl=>af f l λm=>ah P tN [m] f λn o=>ah P z8 [n,(.func (.func Aa) #[c] #[])] o λp q=>aB au (I 0) q λa r=>aC 1 a p r λu b=>af b a λs=>ak .lss s (I 0) λt=>az t (aC 1 a (I 0) b λy v=>bK (σ:=bw []) (λx hh d=>Og P e a K hh (λhz=>d () hz)) () v) (af b a λw=>bK (σ:=bw [9]) (λx hh d=>Oh P a c K x.1 hh (λa0 hz=>d (a0,()) hz)) (w,()) b)
theorem abS(a b d:Value)(H:Oi Tryz.prog a b d h K):aE Tryz.prog D4 [a,b,d].toArray h K:=
 bT (bA:=(bD (Tryz.f126.body.getD .skip) 0 [(7,[]),(14,[9])]).1) (c:=Tryz.f126.body.getD .skip) Tryz.func126 (by kernel_rfl) (by kernel_rfl) (by kernel_rfl) (of_decide_eq_true (by kernel_rfl))
  (Eq.mpr (by kernel_rfl) H)
def AR(P:Program)(a:Value)(Z:Value->KT)(b:Value)(c:aa):Prop:=ak .add a (I 1) λd=>Z b d c
def Oj(P:Program)(g i c:Value)(K:KT)(d a:Value)(e:aa)(Z:Value->KT):Prop:=ak .lss a g λj=>az j (aW 1 i a λk=>af e k λb=>ah P EF [c,b] e λl f=>az l (ah P tu [c,b] f λm n=>ah P lC [c,b] n λo p=>aP [(I 0),(.slice none 0 0),(.slice none 0 0),(.slice none 0 0),(.slice none 0 0),(.slice none 0 0),(.slice none 0 0)] [(0,1,b),(1,3,m),(4,3,o)] λq=>cz gG (bO [(I 0),(.slice none 0 0),(.slice none 0 0),(.slice none 0 0),(.slice none 0 0),(.slice none 0 0),(.slice none 0 0)] 1) [(0,7,q)] 1 p λr s=>cZ gG 7 152 [(I 0),(.slice none 0 0),(.slice none 0 0),(.slice none 0 0),(.slice none 0 0),(.slice none 0 0),(.slice none 0 0)] d r s λt u=>AR P a Z t u) (AR P a Z d f)) (K d e)
def Ol(P:Program)(b a:Value)(h:aa)(K:KT):Prop:=bx a λc=>bK (σ:=bw [4,9]) (λx hh d=>Oj P c a b K x.1 x.2.1 hh (λa0 e hz=>d (a0,(e,())) hz)) ((.slice none 0 0),((I 0),())) h
theorem abT(a b:Value)(H:Ol Tryz.prog a b h K):aE Tryz.prog D5 [a,b].toArray h K:=
 bT (bA:=(bD (Tryz.f127.body.getD .skip) 0 [(3,[4,9])]).1) (c:=Tryz.f127.body.getD .skip) Tryz.func127 (by kernel_rfl) (by kernel_rfl) (by kernel_rfl) (of_decide_eq_true (by kernel_rfl))
  (Eq.mpr (by kernel_rfl) H)
def AS(P:Program)(K:KT)(a:Value)(b:aa):Prop:=K a b
def Om(P:Program)(b a:Value)(h:aa)(K:KT):Prop:=af h a λe=>de (.int .i64) (I 0) true h e b λc=>aX c 0 λf=>aX c 1 λg=>bS .not g λi=>az i (af h a λj=>pK h j λd=>af h a λk=>dQ (.int .i64) k b d h λu l=>AS P K d l) (AS P K f h)
theorem abU(a b:Value)(H:Om Tryz.prog a b h K):aE Tryz.prog KS [a,b].toArray h K:=
 aO Tryz.func128 (Eq.mpr (by kernel_rfl) H)
def On(P:Program)(K:KT)(a:aa):Prop:=K (.tuple #[(I 0),(I 0)]) a
def Oo(P:Program)(b:Value)(K:KT)(a:Value)(c:aa)(Z:KT):Prop:=ak .add a (I 1) λd=>ak .add a (I 1) λe=>ak .mul d e λf=>ak .leq f b λg=>az g (ak .add a (I 1) λi=>Z i c) (ak .quo b a λj=>K (.tuple #[a,j]) c)
def Oq(P:Program)(a:Value)(h:aa)(K:KT):Prop:=ak .lss a (I 1) λb=>az b (On P K h) (ak .gtr a (I 256) λc=>az c (On P K h) (bK (σ:=bw [2]) (λx hh d=>Oo P a K x.1 hh (λa0 hz=>d (a0,()) hz)) ((I 1),()) h))
theorem abV(a:Value)(H:Oq Tryz.prog a h K):aE Tryz.prog D6 [a].toArray h K:=
 bT (bA:=(bD (Tryz.f129.body.getD .skip) 0 [(6,[2])]).1) (c:=Tryz.f129.body.getD .skip) Tryz.func129 (by kernel_rfl) (by kernel_rfl) (by kernel_rfl) (of_decide_eq_true (by kernel_rfl))
  (Eq.mpr (by kernel_rfl) H)
def F9(P:Program)(a:Value)(h:aa)(K:KT):Prop:=aB cq a h λn1 b=>K (.func (.func EG) #[] #[n1]) b
theorem Ot(a:Value)(H:F9 Tryz.prog a h K):aE Tryz.prog D7 [a].toArray h K:=
 aO Tryz.func130 (Eq.mpr (by kernel_rfl) H)
def Ou(P:Program)(g b:Value)(h:aa)(K:KT):Prop:=aB gE g h λd i=>aB gE (.agg #[(I 0),(I 0),(.bool false)]) i λc a=>aq 2 d λj=>af a j λk=>bS .not k λl=>az l (aP [(I 0),(I 0),(.bool false)] [(0,1,b),(1,1,b),(2,1,(.bool true))] λm=>aC 3 c m a λu e=>aZ 3 e c λres=>K res e) (aq 0 d λn=>af a n λo=>jD o b λp=>aq 1 d λq=>af a q λr=>iH r b λs=>aP [(I 0),(I 0),(.bool false)] [(0,1,p),(1,1,s),(2,1,(.bool true))] λt=>aC 3 c t a λw f=>aZ 3 f c λv=>K v f)
theorem abW(a b:Value)(H:Ou Tryz.prog a b h K):aE Tryz.prog zO [a,b].toArray h K:=
 aO Tryz.func131 (Eq.mpr (by kernel_rfl) H)
def Ov(P:Program)(d many1:Value)(h:aa)(K:KT):Prop:=aB gE d h λa e=>aB au many1 e λf b=>aq 1 a λg=>af b g λi=>aq 0 a λj=>af b j λk=>ak .sub i k λl=>ak .add l (I 1) λm=>aB bY (I 0) b λc n=>aC 1 c m n λu o=>K (.func (.func EH) #[] #[a,f,c]) o
theorem abX(a many1:Value)(H:Ov Tryz.prog a many1 h K):aE Tryz.prog jc [a,many1].toArray h K:=
 aO Tryz.func132 (Eq.mpr (by kernel_rfl) H)
def Ow(P:Program)(d e b:Value)(K:KT)(c:Value)(a:aa)(Z:KT):Prop:=ak .lss c d λf=>az f (aW 1 e c λg=>af a g λi=>af a b λj=>aJ j λk=>aq 1 k λl=>af a l λm=>af a b λn=>aJ n λo=>aq 2 o λp=>af a p λq=>aW 1 m i λr=>aC 1 r q a λu s=>ak .add c (I 1) λt=>Z t s) (jo P EI #[b] a λv=>K (.tuple #[]) v)
def Ox(P:Program)(m c a:Value)(h:aa)(K:KT):Prop:=aB lF m h λb d=>ak .eql a (I 1) λn=>az n (bx c λo=>bK (σ:=bw [17]) (λx hh p=>Ow P o c b K x.1 hh (λa0 hz=>p (a0,()) hz)) ((I 0),()) d) (af d b λq=>ah P EJ [q,c] d λf g=>aX f 0 λr=>aX f 1 λN=>af g b λs=>ah P Ad [s,r] g λt u=>aB kK .nilFunc u λi v=>aC 1 i t v λO w=>ah P tN [c] w λy z=>ah P EK [y,(.func (.func EL) #[] #[i])] z λe j=>bx e λA=>ak .quo a (I 2) λB=>ak .mul A B λC=>ak .quo C a λk=>af j b λD=>dY 1 e none (some k) none λE=>ak .quo a (I 2) λF=>ah P wz [D,E,F] j λQ l=>af l b λG=>dY 1 e (some k) none none λH=>ak .quo a (I 2) λJ=>ak .sub a J λL=>ah P wz [G,H,L] l λR M=>K (.tuple #[]) M)
theorem abY(a b d:Value)(H:Ox Tryz.prog a b d h K):aE Tryz.prog wz [a,b,d].toArray h K:=
 abO (g:=EI) (A:=cL (Tryz.f133.body.getD .skip)) (A':=(cL (cL (cR (Tryz.f133.body.getD .skip))))) (B:=(cR (cT (cR (cL (cR (Tryz.f133.body.getD .skip))))))) (C:=(cR (cR (Tryz.f133.body.getD .skip)))) (l8:=(bD (cL (Tryz.f133.body.getD .skip)) 0 []).1) (F7:=(bD (cL (cL (cR (Tryz.f133.body.getD .skip)))) 0 []).1) (iq:=(bD (cR (cT (cR (cL (cR (Tryz.f133.body.getD .skip)))))) 0 [(2,[17])]).1) (xl:=(bD (cR (cR (Tryz.f133.body.getD .skip))) 0 []).1) (id:=vD (cL (cT (cR (cL (cR (Tryz.f133.body.getD .skip))))))) (o1:=cO 0 (cL (cT (cR (cL (cR (Tryz.f133.body.getD .skip))))))) (o2:=cO 1 (cL (cT (cR (cL (cR (Tryz.f133.body.getD .skip))))))) (s:=14) (co:=(.tmp 13)) (caps:= #[(.tmp 3)]) (c:={callee:=.value (.tmp 14),args:= #[],argTypes:= #[]})
  Tryz.func133 (by kernel_rfl) (by kernel_rfl) (by kernel_rfl) (of_decide_eq_true (by kernel_rfl)) (by kernel_rfl) (by kernel_rfl) (by kernel_rfl) (by kernel_rfl) rfl rfl (by kernel_rfl) (by kernel_rfl)
  (Eq.mpr (by kernel_rfl) H)
def Oy(P:Program)(a:Value)(h:aa)(K:KT):Prop:=bL false .ptr a (.pointer none) λb=>az b (K (.slice none 0 0) h) (aJ a λc=>aq 0 c λd=>af h d λe=>ah P nS [e] h λf g=>K f g)
theorem abZ(a:Value)(H:Oy Tryz.prog a h K):aE Tryz.prog D8 [a].toArray h K:=
 aO Tryz.func134 (Eq.mpr (by kernel_rfl) H)
def Oz(P:Program)(f g c i:Value)(K:KT)(b:Value)(a:aa)(Z:KT):Prop:=ak .lss b f λj=>az j (aW 1 g b λk=>af a k λl=>af a c λm=>ah P Ec [m,l] a λn o=>aB oT (.slice none 0 0) o λd p=>aC 1 d n p λu q=>aS P (.func (.func zP) #[] #[c,i]) [(.func (.func KV) #[] #[d])].toArray q λr e=>bS .not r λs=>az s (K (.tuple #[]) e) (ak .add b (I 1) λt=>Z t e)) (K (.tuple #[]) a)
def OA(P:Program)(g b c d:Value)(h:aa)(K:KT):Prop:=aB fH g h λe i=>aS P (.func (.func zP) #[] #[b,e]) [(.func (.func KU) #[] #[b,c,d])].toArray i λj a=>bS .not j λk=>az k (K (.tuple #[]) a) (af a c λl=>af a b λm=>af a d λn=>ah P Eb [l,m,n] a λf o=>bx f λp=>bK (σ:=bw [19]) (λx hh q=>Oz P p f b e K x.1 hh (λa0 hz=>q (a0,()) hz)) ((I 0),()) o)
theorem ab0(a b d e:Value)(H:OA Tryz.prog a b d e h K):aE Tryz.prog D9 [a,b,d,e].toArray h K:=
 bT (bA:=(bD (Tryz.f135.body.getD .skip) 0 [(5,[19])]).1) (c:=Tryz.f135.body.getD .skip) Tryz.func135 (by kernel_rfl) (by kernel_rfl) (by kernel_rfl) (of_decide_eq_true (by kernel_rfl))
  (Eq.mpr (by kernel_rfl) H)
def AT(P:Program)(a:Value)(Z:KT)(b:aa):Prop:=ak .add a (I 1) λc=>Z c b
def OB(P:Program)(e f g:Value)(K:KT)(a:Value)(c:aa)(Z:KT):Prop:=ak .lss a e λi=>az i (aS P f [a].toArray c λj b=>az j (af b g λk=>aS P k [a].toArray b λl d=>bS .not l λm=>az m (K (.bool false) d) (AT P a Z d)) (AT P a Z b)) (K (.bool true) c)
def OC(P:Program)(a b c:Value)(h:aa)(K:KT):Prop:=af h b λd=>ah P kH [d] h λe f=>bK (σ:=bw [8]) (λx hh g=>OB P e a c K x.1 hh (λa0 hz=>g (a0,()) hz)) ((I 0),()) f
theorem ab1(a b d:Value)(H:OC Tryz.prog a b d h K):aE Tryz.prog zP [a,b,d].toArray h K:=
 bT (bA:=(bD (Tryz.f136.body.getD .skip) 0 [(3,[8])]).1) (c:=Tryz.f136.body.getD .skip) Tryz.func136 (by kernel_rfl) (by kernel_rfl) (by kernel_rfl) (of_decide_eq_true (by kernel_rfl))
  (Eq.mpr (by kernel_rfl) H)
def OD(P:Program)(a0 a b c:Value)(h:aa)(K:KT):Prop:=af h a λd=>af h b λe=>af h c λf=>ah P Ea [d,e,f,a0] h λg i=>K g i
theorem ab2(a0 a b c:Value)(H:OD Tryz.prog a0 a b c h K):aE Tryz.prog KU [a0,a,b,c].toArray h K:=
 aO Tryz.func137 (Eq.mpr (by kernel_rfl) H)
def OE(P:Program)(g d e a3:Value)(h:aa)(K:KT):Prop:=ah P jN [g,a3] h λf i=>aX f 0 λj=>aX f 1 λk=>aB cC (.agg #[(I 0),(I 0),(I 0)]) i λa l=>aC 3 a j l λu b=>az k (aq 0 a λm=>af b m λn=>ah P rD [d,n] b λo c=>ak .eql o e λp=>az p (aq 1 a λq=>af c q λr=>ah P rD [d,r] c λs t=>ak .eql s e λv=>K v t) (K (.bool false) c)) (K (.bool false) b)
theorem ab3(a b c a3:Value)(H:OE Tryz.prog a b c a3 h K):aE Tryz.prog Ea [a,b,c,a3].toArray h K:=
 aO Tryz.func138 (Eq.mpr (by kernel_rfl) H)
def OF(P:Program)(K:KT)(a c3 b f:Value)(c:aa):Prop:=az f (K (.slice none 0 0) c) (aB fH .nilFunc c λd g=>aC 1 d (.func (.func rF) #[] #[a,c3,b]) g λu e=>af e c3 λi=>ah P KZ [i,(.func (.func Ae) #[] #[c3,b,a,d])] e λj k=>ah P qa [j] k λl m=>K l m)
def OG(P:Program)(g n1 i:Value)(h:aa)(K:KT):Prop:=aB mw g h λc3 j=>aB cq n1 j λb k=>aB au i k λl a=>eW (σ:=bw [23]) (λJ=>af a c3 λm=>bL false .ptr m (.pointer none) λn=>az n (J ((.bool true),()) a) (af a b λo=>bL false .ptr o (.pointer none) λp=>az p (J ((.bool true),()) a) (af a b λq=>af a c3 λd=>aJ d λr=>aq 0 r λe=>af a e λf=>bx f λs=>ah P ct [q] a λt c=>(af c c3 λu=>u=d)/\(af c e λv=>v=f)/\(ak .neq t s λw=>J (w,()) c)))) (λx hh=>OF P K b c3 l x.1 hh)
theorem ab4(a n1 b:Value)(H:OG Tryz.prog a n1 b h K):aE Tryz.prog Eb [a,n1,b].toArray h K:=
 bT (bA:=(bD (Tryz.f139.body.getD .skip) 0 [(2,[23])]).1) (c:=Tryz.f139.body.getD .skip) Tryz.func139 (by kernel_rfl) (by kernel_rfl) (by kernel_rfl) (of_decide_eq_true (by kernel_rfl))
  (Eq.mpr (by kernel_rfl) H)
def OH(P:Program)(a b:Value)(h:aa)(K:KT):Prop:=cz au (bO [(I 0)] 1) [(0,1,b)] 1 h λc d=>ah P EM [a,c] d λe f=>K e f
theorem ab5(a b:Value)(H:OH Tryz.prog a b h K):aE Tryz.prog Ec [a,b].toArray h K:=
 aO Tryz.func140 (Eq.mpr (by kernel_rfl) H)
def OI(P:Program)(a0 a:Value)(h:aa)(K:KT):Prop:=af h a λb=>bx b λc=>ak .lss a0 c λd=>az d (af h a λe=>aW 1 e a0 λf=>af h f λg=>K g h) (K (.bool false) h)
theorem ab6(a0 a:Value)(H:OI Tryz.prog a0 a h K):aE Tryz.prog KV [a0,a].toArray h K:=
 aO Tryz.func141 (Eq.mpr (by kernel_rfl) H)
def AU(P:Program)(K:KT)(a:aa):Prop:=K (.bool false) a
def OJ(P:Program)(a d b f:Value)(h:aa)(K:KT):Prop:=ak .lss d (I 0) λg=>az g (AU P K h) (ah P wC [a] h λi e=>ak .geq d i λj=>az j (AU P K e) (ak .lss b (I 0) λk=>az k (AU P K e) (ah P tJ [a] e λl c=>ak .geq b l λm=>az m (AU P K c) (aJ a λn=>aq 3 n λo=>af c o λp=>aJ a λq=>aq 2 q λr=>af c r λs=>ak .mul d s λt=>ak .quo b (I 8) λu=>ak .add t u λv=>aW 1 p v λw=>ak .rem b (I 8) λx=>ak .shl (.int .u8 1) x λy=>aS P f [w,y].toArray c λz A=>K z A))))
theorem ab7(a b c d:Value)(H:OJ Tryz.prog a b c d h K):aE Tryz.prog zQ [a,b,c,d].toArray h K:=
 aO Tryz.func142 (Eq.mpr (by kernel_rfl) H)
def Ga(P:Program)(K:KT)(a:aa):Prop:=K (.bool true) a
def OK(P:Program)(a c d:Value)(h:aa)(K:KT):Prop:=aJ a λe=>af h e λf=>ak .andNot f c λg=>aJ a λi=>aC 1 i g h λu b=>af b d λj=>az j (aJ a λk=>af b k λl=>ak .or l c λm=>aJ a λn=>aC 1 n m b λp o=>Ga P K o) (Ga P K b)
theorem ab8(a b c:Value)(H:OK Tryz.prog a b c h K):aE Tryz.prog KW [a,b,c].toArray h K:=
 aO Tryz.func143 (Eq.mpr (by kernel_rfl) H)
def OL(P:Program)(b c:Value)(h:aa)(K:KT):Prop:=ah P K0 [b,c] h λa d=>aX a 0 λe=>aX a 1 λf=>K (.tuple #[e,f]) d
theorem ab9(a b:Value)(H:OL Tryz.prog a b h K):aE Tryz.prog wA [a,b].toArray h K:=
 aO Tryz.func144 (Eq.mpr (by kernel_rfl) H)
def OM(P:Program)(b:Value)(K:KT)(a:Value)(c:aa)(Z:KT):Prop:=ak .gtr a (I 0) λe=>az e (ak .sub a (I 1) λf=>ak .quo f (I 4) λg=>ah P tP [b,a,g] c λi d=>az i (ak .sub a (I 1) λj=>ak .quo j (I 4) λk=>ah P wB [b,a,k] d λo l=>ak .sub a (I 1) λm=>ak .quo m (I 4) λn=>Z n l) (K (.tuple #[]) d)) (K (.tuple #[]) c)
def ON(P:Program)(a b:Value)(h:aa)(K:KT):Prop:=bK (σ:=bw [1]) (λx hh c=>OM P a K x.1 hh (λa0 hz=>c (a0,()) hz)) (b,()) h
theorem acd(a b:Value)(H:ON Tryz.prog a b h K):aE Tryz.prog zR [a,b].toArray h K:=
 bT (bA:=(bD (Tryz.f145.body.getD .skip) 0 [(0,[1])]).1) (c:=Tryz.f145.body.getD .skip) Tryz.func145 (by kernel_rfl) (by kernel_rfl) (by kernel_rfl) (of_decide_eq_true (by kernel_rfl))
  (Eq.mpr (by kernel_rfl) H)
def OO(P:Program)(a:Value)(h:aa)(K:KT):Prop:=bL false .ptr a (.pointer none) λb=>az b (K (I 0) h) (aJ a λc=>aq 0 c λd=>aq 0 d λe=>af h e λf=>bx f λg=>K g h)
theorem ace(a:Value)(H:OO Tryz.prog a h K):aE Tryz.prog tH [a].toArray h K:=
 aO Tryz.func146 (Eq.mpr (by kernel_rfl) H)
def OP(P:Program)(a c d:Value)(h:aa)(K:KT):Prop:=aJ a λg=>aq 0 g λi=>af h i λj=>aJ a λk=>aq 0 k λl=>af h l λm=>aJ a λn=>aq 0 n λo=>af h o λp=>aW 2 p d λq=>aZ 2 h q λr=>aJ a λs=>aq 0 s λt=>af h t λv=>aW 2 v c λw=>aZ 2 h w λx=>aW 2 j c λy=>aC 2 y r h λu z=>aW 2 m d λA=>aC 2 A x z λai b=>aJ a λB=>aq 1 B λC=>af b C λe=>aJ a λD=>aq 0 D λE=>af b E λF=>aW 2 F c λG=>aq 0 G λH=>af b H λJ=>aJ a λL=>aq 1 L λM=>af b M λf=>aJ a λN=>aq 0 N λO=>af b O λQ=>aW 2 Q d λR=>aq 0 R λS=>af b S λT=>j8 (.int .i64) (I 0) e J b λU V=>aX U 1 λW=>jF e W c V λaj X=>j8 (.int .i64) (I 0) f T X λY Z=>aX Y 1 λag=>jF f ag d Z λak ah=>K (.tuple #[]) ah
theorem acf(a b c:Value)(H:OP Tryz.prog a b c h K):aE Tryz.prog wB [a,b,c].toArray h K:=
 aO Tryz.func147 (Eq.mpr (by kernel_rfl) H)
end Go.Proofs.YthglofkkjoiepaaGreatDoor

set_option maxRecDepth 100000
namespace Go.Proofs.YthglofkkjoiepaaGreatDoor
open Go Go.Mh
variable{h:aa}{K:KT}
set_option maxHeartbeats 0
def OQ(P:Program)(e:aa)(f b:Value)(L:Loop)(c:Value)(g:aa)(R:Exit->aa->Prop):Prop:=gY (e.size+1) L g λa=>af a f λi=>af a b λj=>aS P i [c,j].toArray a λk d=>az k (aC 1 b c d λm l=>R .normal l) (R .normal d)
def OR(P:Program)(e g:Value)(K:KT)(m:List Nat)(c:Value)(i:aa)(Z:List Nat->KT):Prop:=aB au (I 0) i λb j=>aC 1 b c j λu k=>ah P K3 [e,c] k λl a=>gd P l [13] (a.size+1) (a.push (.deferred (some []))) (λL x hh R=>OQ P a g b L x.1 hh R) (λd=>af d b λn=>ak .eql n c λo=>az o (cH (a.size::m) d λp=>K (.tuple #[]) p) (af d b λq=>ah P wB [e,c,q] d λv f=>af f b λr=>Z (a.size::m) r f)) (λs=>cH (a.size::m) s λt=>K (.tuple #[]) t) []
def OS(P:Program)(a c:Value)(h:aa)(K:KT):Prop:=aB Az .nilFunc h λb d=>aC 1 b (.func (.func tP) #[a] #[]) d λu e=>bK (σ:=List Nat×bw [1]) (λx hh f=>OR P a b K x.1 x.2.1 hh (λg a0 hz=>f (g,(a0,())) hz)) ([],(c,())) e
theorem acg(a b:Value)(H:OS Tryz.prog a b h K):aE Tryz.prog Ed [a,b].toArray h K:=
 bT (bA:=(bD (Tryz.f148.body.getD .skip) 0 [(1,[1])]).1) (c:=Tryz.f148.body.getD .skip) Tryz.func148 (by kernel_rfl) (by kernel_rfl) (by kernel_rfl) (of_decide_eq_true (by kernel_rfl))
  (Eq.mpr (by kernel_rfl) H)
def OT(P:Program)(l m n o p:Value)(K:KT)(c:Value)(a:aa)(Z:KT):Prop:=ak .lss c l λq=>az q (aW 1 m c λr=>af a r λe=>af a n λs=>ah P jN [s,e] a λf t=>aX f 0 λv=>aX f 1 λF=>aB cC (.agg #[(I 0),(I 0),(I 0)]) t λd w=>aC 3 d v w λu b=>af b o λx=>aZ 3 b d λy=>aq 2 d λg=>af b g λi=>aS P x [y].toArray b λz j=>(af j g λA=>A=i)/\(aP [(I 0),(I 0),(I 0)] [(1,1,z),(2,1,i)] λB=>aS P p [e,B].toArray j λC k=>bS .not C λD=>az D (K (.tuple #[]) k) (ak .add c (I 1) λE=>Z E k))) (K (.tuple #[]) a)
def OU(P:Program)(b c d e:Value)(h:aa)(K:KT):Prop:=af h c λa=>bx a λf=>bK (σ:=bw [11]) (λx hh g=>OT P f a d e b K x.1 hh (λa0 hz=>g (a0,()) hz)) ((I 0),()) h
theorem ach(a b d e:Value)(H:OU Tryz.prog a b d e h K):aE Tryz.prog Ee [a,b,d,e].toArray h K:=
 bT (bA:=(bD (Tryz.f149.body.getD .skip) 0 [(1,[11])]).1) (c:=Tryz.f149.body.getD .skip) Tryz.func149 (by kernel_rfl) (by kernel_rfl) (by kernel_rfl) (of_decide_eq_true (by kernel_rfl))
  (Eq.mpr (by kernel_rfl) H)
def OV(P:Program)(c g:Value)(h:aa)(K:KT):Prop:=aB cC (.agg #[(I 0),(I 0),(I 0)]) h λa b=>bL false .ptr c (.pointer none) λi=>az i (aP [(I 0),(I 0),(I 0)] [] λj=>aC 3 a j b λu d=>aZ 3 d a λres=>K (.tuple #[res,(.bool false)]) d) (aJ c λk=>aq 0 k λl=>aq 3 l λm=>af b m λn=>ah P EN [n,g] b λe o=>aX e 0 λp=>aX e 1 λq=>aC 3 a p o λs f=>aZ 3 f a λr=>K (.tuple #[r,q]) f)
theorem aci(a b:Value)(H:OV Tryz.prog a b h K):aE Tryz.prog jN [a,b].toArray h K:=
 aO Tryz.func150 (Eq.mpr (by kernel_rfl) H)
def OW(P:Program)(b d:Value)(h:aa)(K:KT):Prop:=ah P tH [b] h λe a=>ak .eql e (I 0) λf=>az f (K (.tuple #[(I 0),(.bool false)]) a) (aJ b λg=>aq 0 g λi=>aq 1 i λj=>af a j λk=>de (.int .i64) (I 0) true a k d λc=>aX c 0 λl=>aX c 1 λm=>bS .not m λn=>az n (K (.tuple #[(I 0),(.bool false)]) a) (aJ b λo=>aq 0 o λp=>aq 0 p λq=>af a q λr=>aW 2 r l λs=>aq 1 s λt=>af a t λu=>K (.tuple #[u,(.bool true)]) a))
theorem acj(a b:Value)(H:OW Tryz.prog a b h K):aE Tryz.prog tI [a,b].toArray h K:=
 aO Tryz.func151 (Eq.mpr (by kernel_rfl) H)
def OX(P:Program)(K:KT)(a:aa):Prop:=K (I 2) a
def OY(P:Program)(a b d:Value)(h:aa)(K:KT):Prop:=bL false .ptr a (.pointer none) λf=>az f (K (I 1) h) (aJ a λg=>aq 0 g λi=>aq 1 i λj=>af h j λk=>de (.int .i64) (I 0) true h k b λe=>aX e 0 λc=>aX e 1 λl=>ak .lss b (I 0) λm=>az m (OX P K h) (aJ a λn=>aq 2 n λo=>af h o λp=>ak .geq b p λq=>az q (OX P K h) (bS .not l λr=>az r (K (I 20) h) (aJ a λs=>aq 0 s λt=>aq 0 t λv=>af h v λw=>aW 2 w c λx=>aq 1 x λy=>af h y λz=>ak .lss z d λA=>az A (K (I 2) h) (aJ a λB=>aq 0 B λC=>aq 0 C λD=>af h D λE=>aW 2 E c λF=>aq 1 F λG=>aC 1 G d h λu H=>aJ a λJ=>aq 0 J λL=>ah P zR [L,c] H λN M=>K (I 0) M)))))
theorem ack(a b c:Value)(H:OY Tryz.prog a b c h K):aE Tryz.prog qg [a,b,c].toArray h K:=
 aO Tryz.func152 (Eq.mpr (by kernel_rfl) H)
def OZ(P:Program)(b:Value)(K:KT)(c:Value)(a:aa):Prop:=aq 2 b λd=>af a d λe=>ak .geq e (I 0) λf=>az f (aq 2 b λg=>af a g λi=>ak .lss i c λj=>az j (aq 1 b λk=>af a k λl=>ak .eql l (I 0) λm=>az m (aq 0 b λn=>af a n λo=>ak .eql o (I 0) λp=>az p (K (.bool true) a) (aq 3 b λq=>af a q λr=>ak .eql r (I 0) λs=>K s a)) (aq 1 b λt=>af a t λu=>ak .eql u (I 1) λv=>az v (aq 0 b λw=>af a w λx=>ak .eql x (I 0) λy=>az y (K (.bool true) a) (aq 3 b λz=>af a z λA=>ak .eql A (I 0) λB=>K B a)) (K (.bool false) a))) (K (.bool false) a)) (K (.bool false) a)
def O2(P:Program)(V f:Value)(h:aa)(K:KT):Prop:=aB eO V h λB i=>eW (σ:=bw [4]) (λJ=>af i f λC=>af i f λc=>aq 0 B λb=>af i b λa=>(bp i λd W=>ah P ct [C] W λm k=>(af k f λX=>X=c)/\(af k b λY=>Y=a)/\((dQ (.int .i64) d (I 0) m k λu n=>(af n f λZ=>Z=c)/\(af n b λag=>ag=a)/\(ah P kH [c] n λai D=>(af D b λaj=>aj=a)/\(dQ (.int .i64) d (I 1) ai D λaZ o=>(af o b λak=>ak=a)/\(de (.int .i64) (I 0) false o d a λan=>J (an,()) o))))/\(ah P kH [c] k λE p=>(af p b λau=>au=a)/\((dQ (.int .i64) d (I 0) m p λbf F=>(af F b λav=>av=a)/\(dQ (.int .i64) d (I 1) E F λbg q=>(af q b λax=>ax=a)/\(de (.int .i64) (I 0) false q d a λay=>J (ay,()) q)))/\(dQ (.int .i64) d (I 1) E p λbh G=>(af G b λaz=>az=a)/\(dQ (.int .i64) d (I 0) m G λbk r=>(af r b λaA=>aA=a)/\(de (.int .i64) (I 0) false r d a λaC=>J (aC,()) r)))))))/\(ah P ct [C] i λj l=>(af l f λaD=>aD=c)/\(af l b λaE=>aE=a)/\((bp l λe H=>(dQ (.int .i64) e (I 0) j H λbl s=>(af s f λaF=>aF=c)/\(af s b λaG=>aG=a)/\(ah P kH [c] s λaH L=>(af L b λaI=>aI=a)/\(dQ (.int .i64) e (I 1) aH L λbn t=>(af t b λaJ=>aJ=a)/\(de (.int .i64) (I 0) false t e a λaK=>J (aK,()) t))))/\(ah P kH [c] H λM v=>(af v b λaL=>aL=a)/\((dQ (.int .i64) e (I 0) j v λbq N=>(af N b λaM=>aM=a)/\(dQ (.int .i64) e (I 1) M N λbr w=>(af w b λaN=>aN=a)/\(de (.int .i64) (I 0) false w e a λaO=>J (aO,()) w)))/\(dQ (.int .i64) e (I 1) M v λbt O=>(af O b λaP=>aP=a)/\(dQ (.int .i64) e (I 0) j O λbu y=>(af y b λaQ=>aQ=a)/\(de (.int .i64) (I 0) false y e a λaR=>J (aR,()) y))))))/\(ah P kH [c] l λQ R=>(af R b λaS=>aS=a)/\(bp R λg S=>(dQ (.int .i64) g (I 0) j S λbx T=>(af T b λaT=>aT=a)/\(dQ (.int .i64) g (I 1) Q T λbz z=>(af z b λaU=>aU=a)/\(de (.int .i64) (I 0) false z g a λaV=>J (aV,()) z)))/\(dQ (.int .i64) g (I 1) Q S λbA U=>(af U b λaW=>aW=a)/\(dQ (.int .i64) g (I 0) j U λbB A=>(af A b λaX=>aX=a)/\(de (.int .i64) (I 0) false A g a λaY=>J (aY,()) A)))))))) (λx hh=>OZ P B K x.1 hh)
theorem acm(a b:Value)(H:O2 Tryz.prog a b h K):aE Tryz.prog qh [a,b].toArray h K:=
 bT (bA:=(bD (Tryz.f153.body.getD .skip) 0 [(1,[4])]).1) (c:=Tryz.f153.body.getD .skip) Tryz.func153 (by kernel_rfl) (by kernel_rfl) (by kernel_rfl) (of_decide_eq_true (by kernel_rfl))
  (Eq.mpr (by kernel_rfl) H)
def O3(P:Program)(d s0 e:Value)(K:KT)(a:Value)(b:aa)(Z:KT):Prop:=ak .lss a d λf=>az f (aW 4 s0 a λg=>aZ 4 b g λi=>aS P e [i].toArray b λj c=>az j (K a c) (ak .add a (I 1) λk=>Z k c)) (K (I (-1)) b)
def O4(P:Program)(s0 a:Value)(h:aa)(K:KT):Prop:=bx s0 λb=>bK (σ:=bw [8]) (λx hh c=>O3 P b s0 a K x.1 hh (λa0 hz=>c (a0,()) hz)) ((I 0),()) h
theorem acn(s0 a:Value)(H:O4 Tryz.prog s0 a h K):aE Tryz.prog Ef [s0,a].toArray h K:=
 bT (bA:=(bD (Tryz.f154.body.getD .skip) 0 [(3,[8])]).1) (c:=Tryz.f154.body.getD .skip) Tryz.func154 (by kernel_rfl) (by kernel_rfl) (by kernel_rfl) (of_decide_eq_true (by kernel_rfl))
  (Eq.mpr (by kernel_rfl) H)
def ue(P:Program)(K:KT)(b c d:Value)(Z:KT)(e:Value)(a:aa):Prop:=az e (K (.tuple #[]) a) (aq 1 b λf=>af a f λg=>aC 1 c g a λk i=>ak .add d (I 1) λj=>Z j i)
def O5(P:Program)(j k l e f:Value)(K:KT)(c:Value)(d:aa)(Z:KT):Prop:=ak .lss c j λm=>az m (aW 1 k c λn=>af d n λo=>af d l λp=>ah P jN [p,o] d λg q=>aX g 0 λr=>aX g 1 λs=>aB cC (.agg #[(I 0),(I 0),(I 0)]) q λa t=>aC 3 a r t λu b=>aZ 3 b a λi=>az s (aq 0 a λv=>af b v λw=>af b e λx=>ak .eql w x λy=>aS P f [i,y].toArray b λz A=>bS .not z λB=>ue P K a e c Z B A) (aS P f [i,(.bool false)].toArray b λC D=>bS .not C λE=>ue P K a e c Z E D)) (K (.tuple #[]) d)
def O6(P:Program)(b c d e:Value)(h:aa)(K:KT):Prop:=af h c λa=>bx a λf=>bK (σ:=bw [11]) (λx hh g=>O5 P f a d e b K x.1 hh (λa0 hz=>g (a0,()) hz)) ((I 0),()) h
theorem aco(a b d e:Value)(H:O6 Tryz.prog a b d e h K):aE Tryz.prog Eg [a,b,d,e].toArray h K:=
 bT (bA:=(bD (Tryz.f155.body.getD .skip) 0 [(1,[11])]).1) (c:=Tryz.f155.body.getD .skip) Tryz.func155 (by kernel_rfl) (by kernel_rfl) (by kernel_rfl) (of_decide_eq_true (by kernel_rfl))
  (Eq.mpr (by kernel_rfl) H)
def O7(P:Program)(c l0:Value)(K:KT)(b:Value)(a:aa)(Z:KT):Prop:=ak .lss b c λd=>az d (aW 1 l0 b λe=>af a e λf=>bS .not f λg=>az g (K (.bool false) a) (ak .add b (I 1) λi=>Z i a)) (K (.bool true) a)
def O8(P:Program)(l0:Value)(h:aa)(K:KT):Prop:=bx l0 λa=>bK (σ:=bw [7]) (λx hh b=>O7 P a l0 K x.1 hh (λa0 hz=>b (a0,()) hz)) ((I 0),()) h
theorem acp(l0:Value)(H:O8 Tryz.prog l0 h K):aE Tryz.prog Eh [l0].toArray h K:=
 bT (bA:=(bD (Tryz.f156.body.getD .skip) 0 [(3,[7])]).1) (c:=Tryz.f156.body.getD .skip) Tryz.func156 (by kernel_rfl) (by kernel_rfl) (by kernel_rfl) (of_decide_eq_true (by kernel_rfl))
  (Eq.mpr (by kernel_rfl) H)
def O9(P:Program)(a:Value)(h:aa)(K:KT):Prop:=bL false .ptr a (.pointer none) λb=>az b (K (I 0) h) (aJ a λc=>aq 0 c λd=>af h d λe=>K e h)
theorem acq(a:Value)(H:O9 Tryz.prog a h K):aE Tryz.prog wC [a].toArray h K:=
 aO Tryz.func157 (Eq.mpr (by kernel_rfl) H)
def Pa(P:Program)(a:Value)(h:aa)(K:KT):Prop:=bL false .ptr a (.pointer none) λb=>az b (K (I 0) h) (aJ a λc=>aq 1 c λd=>af h d λe=>K e h)
theorem acr(a:Value)(H:Pa Tryz.prog a h K):aE Tryz.prog tJ [a].toArray h K:=
 aO Tryz.func158 (Eq.mpr (by kernel_rfl) H)
def Pb(P:Program)(a:Value)(h:aa)(K:KT):Prop:=aB wX a h λb c=>K (.func (.func EO) #[] #[b]) c
theorem acs(a:Value)(H:Pb Tryz.prog a h K):aE Tryz.prog KX [a].toArray h K:=
 aO Tryz.func159 (Eq.mpr (by kernel_rfl) H)
def Pc(P:Program)(a:Value)(h:aa)(K:KT):Prop:=K (.tuple #[(.slice none 0 0),(.slice none 0 0)]) h
theorem acu(a:Value)(H:Pc Tryz.prog a h K):aE Tryz.prog zS [a].toArray h K:=
 aO Tryz.func160 (Eq.mpr (by kernel_rfl) H)
def Pd(P:Program)(a:Value)(h:aa)(K:KT):Prop:=aJ a λd=>aq 3 d λe=>af h e λf=>aJ a λg=>aq 4 g λi=>aq 1 i λj=>af h j λk=>aJ a λl=>aq 4 l λm=>aq 2 m λn=>af h n λo=>aJ a λp=>aq 4 p λq=>aq 3 q λr=>af h r λs=>ah P wH [f,k,o,s] h λc b=>aJ a λt=>aq 3 t λu=>af b u λv=>aJ a λw=>aq 4 w λx=>aq 2 x λy=>af b y λz=>ah P wJ [v,c,z] b λA B=>K (.tuple #[c,A]) B
theorem acv(a:Value)(H:Pd Tryz.prog a h K):aE Tryz.prog Ei [a].toArray h K:=
 aO Tryz.func161 (Eq.mpr (by kernel_rfl) H)
def Pe(P:Program)(K:KT)(a:aa):Prop:=K (.slice none 0 0) a
def Pf(P:Program)(d e c:Value)(K:KT)(a:Value)(b:aa)(Z:KT):Prop:=ak .lss a d λf=>az f (aW 1 e a λg=>af b g λi=>aW 1 c i λj=>aC 1 j (.bool true) b λu k=>ak .add a (I 1) λl=>Z l k) (K c b)
def Pg(P:Program)(a b:Value)(h:aa)(K:KT):Prop:=ak .lss b (I 0) λf=>az f (Pe P K h) (ah P wC [a] h λg c=>ak .geq b g λi=>az i (Pe P K c) (ah P tJ [a] c λd j=>c9 eA 1 [(.bool false)] d d j λk l=>ah P EV [a,b] l λe m=>bx e λn=>bK (σ:=bw [23]) (λx hh o=>Pf P n e k K x.1 hh (λa0 hz=>o (a0,()) hz)) ((I 0),()) m))
theorem acw(a b:Value)(H:Pg Tryz.prog a b h K):aE Tryz.prog tK [a,b].toArray h K:=
 bT (bA:=(bD (Tryz.f162.body.getD .skip) 0 [(7,[23])]).1) (c:=Tryz.f162.body.getD .skip) Tryz.func162 (by kernel_rfl) (by kernel_rfl) (by kernel_rfl) (of_decide_eq_true (by kernel_rfl))
  (Eq.mpr (by kernel_rfl) H)
def Gb(P:Program)(K:KT)(a:aa):Prop:=K (I (-1)) a
def Ph(P:Program)(a b:Value)(h:aa)(K:KT):Prop:=bL false .ptr a (.pointer none) λc=>az c (Gb P K h) (ak .lss b (I 0) λd=>az d (Gb P K h) (aJ a λe=>aq 0 e λf=>af h f λg=>bx g λi=>ak .geq b i λj=>az j (Gb P K h) (aJ a λk=>aq 0 k λl=>af h l λm=>aW 1 m b λn=>af h n λo=>K o h)))
theorem acy(a b:Value)(H:Ph Tryz.prog a b h K):aE Tryz.prog rD [a,b].toArray h K:=
 aO Tryz.func163 (Eq.mpr (by kernel_rfl) H)
def Pj(P:Program)(c:Value)(K:KT)(b:Value)(a:aa):Prop:=aq 0 b λk=>af a k λl=>ak .geq l (I 72057594037927936) λm=>az m (aP [(I 0),(I 0),(.slice none 0 0),(.slice none 0 0)] [(0,1,(I 20))] λn=>aq 2 b λf=>af a f λg=>aC 4 c n a λw d=>(af d f λo=>o=g)/\(aZ 4 d c λres=>K (.tuple #[res,g]) d)) (aq 0 b λp=>af a p λq=>aq 1 b λr=>af a r λs=>aP [(I 0),(I 0),(.slice none 0 0),(.slice none 0 0)] [(1,1,q),(2,1,s)] λt=>aq 2 b λi=>af a i λj=>aC 4 c t a λx e=>(af e i λu=>u=j)/\(aZ 4 e c λv=>K (.tuple #[v,j]) e))
def Pk(P:Program)(k l m:Value)(h:aa)(K:KT):Prop:=aB eG l h λb n=>aB eB (.agg #[(I 0),(I 0),(.slice none 0 0),(.slice none 0 0)]) n λo a=>eW (σ:=bw [7]) (λJ=>af a m λc=>aJ k λp=>aq 0 p λq=>af a q λd=>aq 1 b λr=>af a r λs=>aq 2 b λt=>af a t λv=>aP [(I 0),(I 0),(.slice none 0 0),(.slice none 0 0)] [(0,1,s),(1,1,v)] λe=>(aS P c [d,e].toArray a λf w=>aX f 0 λy=>aX f 1 λF=>aB dJ (.agg #[(I 0),(.slice none 0 0),(.slice none 0 0)]) w λg z=>aC 3 g y z λu A=>J (g,()) A)/\(aB dJ (.agg #[(I 0),(.slice none 0 0),(.slice none 0 0)]) a λi B=>aS P c [d,e].toArray B λj C=>aX j 0 λD=>aX j 1 λG=>aC 3 i D C λH E=>J (i,()) E)) (λx hh=>Pj P o K x.1 hh)
theorem acz(a b d:Value)(H:Pk Tryz.prog a b d h K):aE Tryz.prog wD [a,b,d].toArray h K:=
 bT (bA:=(bD (Tryz.f164.body.getD .skip) 0 [(1,[7])]).1) (c:=Tryz.f164.body.getD .skip) Tryz.func164 (by kernel_rfl) (by kernel_rfl) (by kernel_rfl) (of_decide_eq_true (by kernel_rfl))
  (Eq.mpr (by kernel_rfl) H)
def Pm(P:Program)(a b:Value)(h:aa)(K:KT):Prop:=ak .geq a (I 0) λc=>az c (af h b λd=>ah P ct [d] h λe f=>ak .lss a e λg=>K g f) (K (.bool false) h)
theorem acA(a b:Value)(H:Pm Tryz.prog a b h K):aE Tryz.prog zT [a,b].toArray h K:=
 aO Tryz.func165 (Eq.mpr (by kernel_rfl) H)
def Pn(P:Program)(l0 n1:Value)(h:aa)(K:KT):Prop:=bx l0 λa=>ak .eql a (I 0) λb=>az b (K (.bool true) h) (bx l0 λc=>ak .eql c n1 λd=>K d h)
theorem acB(l0 n1:Value)(H:Pn Tryz.prog l0 n1 h K):aE Tryz.prog Ej [l0,n1].toArray h K:=
 aO Tryz.func166 (Eq.mpr (by kernel_rfl) H)
def Po(P:Program)(l0 n1:Value)(h:aa)(K:KT):Prop:=bx l0 λa=>ak .eql a (I 0) λb=>az b (K (.bool true) h) (bx l0 λc=>ak .eql c n1 λd=>K d h)
theorem acC(l0 n1:Value)(H:Po Tryz.prog l0 n1 h K):aE Tryz.prog Ek [l0,n1].toArray h K:=
 aO Tryz.func167 (Eq.mpr (by kernel_rfl) H)
def Pp(P:Program)(c b:Value)(K:KT)(a:Value)(d:aa):Prop:=cz au (bO [(I 0)] 1) [(0,1,(I (-1)))] 1 d λe f=>ah P ct [c] f λg i=>ah P zI [e,g] i λj k=>aJ a λl=>aq 3 l λm=>aC 1 m j k λu n=>aJ a λo=>aq 5 o λp=>aC 1 p (.func (.func wN) #[] #[b]) n λv q=>aJ a λr=>aq 6 r λs=>aC 1 s (.func (.func Ag) #[] #[b]) q λw t=>K a t
def Pq(P:Program)(a i:Value)(h:aa)(K:KT):Prop:=aB iM i h λj k=>eW (σ:=bw [5]) (λJ=>ah P ct [a] k λl m=>ah P cP [l] m λd n=>ah P ct [a] n λb e=>(c9 bY 8 [(I 0)] b b e λo p=>ah P ct [a] p λf q=>c9 eA 1 [(.bool false)] f f q λr s=>aP [(.pointer none),(.pointer none),(.slice none 0 0),(.slice none 0 0),(.slice none 0 0),.nilFunc,.nilFunc,(.slice none 0 0)] [(0,1,a),(1,1,d),(2,1,o),(4,1,r)] λt=>aB qk t s λu v=>J (u,()) v)/\(ah P ct [a] e λc g=>(c9 bY 8 [(I 0)] b b g λw y=>c9 eA 1 [(.bool false)] c c y λz A=>aP [(.pointer none),(.pointer none),(.slice none 0 0),(.slice none 0 0),(.slice none 0 0),.nilFunc,.nilFunc,(.slice none 0 0)] [(0,1,a),(1,1,d),(2,1,w),(4,1,z)] λB=>aB qk B A λC D=>J (C,()) D)/\(c9 eA 1 [(.bool false)] c c g λE F=>c9 bY 8 [(I 0)] b b F λG H=>aP [(.pointer none),(.pointer none),(.slice none 0 0),(.slice none 0 0),(.slice none 0 0),.nilFunc,.nilFunc,(.slice none 0 0)] [(0,1,a),(1,1,d),(2,1,G),(4,1,E)] λL=>aB qk L H λM N=>J (M,()) N))) (λx hh=>Pp P a j K x.1 hh)
theorem acD(a b:Value)(H:Pq Tryz.prog a b h K):aE Tryz.prog El [a,b].toArray h K:=
 bT (bA:=(bD (Tryz.f168.body.getD .skip) 0 [(1,[5])]).1) (c:=Tryz.f168.body.getD .skip) Tryz.func168 (by kernel_rfl) (by kernel_rfl) (by kernel_rfl) (of_decide_eq_true (by kernel_rfl))
  (Eq.mpr (by kernel_rfl) H)
end Go.Proofs.YthglofkkjoiepaaGreatDoor

set_option maxRecDepth 100000
namespace Go.Proofs.YthglofkkjoiepaaGreatDoor
open Go Go.Mh
variable{h:aa}{K:KT}
set_option maxHeartbeats 0
def Pt(P:Program)(s0 b:Value)(K:KT)(f:Value)(i:aa)(Z:aa->Prop):Prop:=aJ s0 λn=>aq 1 n λo=>af i o λp=>ah P oQ [p] i λg c=>aX g 0 λa=>aX g 1 λaB=>aX g 2 λq=>bS .not q λr=>az r (aJ s0 λs=>aq 7 s λt=>af c t λv=>aP [(I 0),(.slice none 0 0),(.slice none 0 0)] [(0,1,(I 72057594037927936)),(2,1,v)] λw=>aC 3 b w c λu j=>aZ 3 j b λres=>K res j) (aJ s0 λx=>aq 4 x λy=>af c y λz=>aW 1 z a λA=>aC 1 A (.bool true) c λaD d=>aJ s0 λB=>aq 7 B λC=>af d C λD=>aJ s0 λE=>aq 2 E λF=>af d F λG=>aW 1 G a λH=>af d H λJ=>aP [(I 0),(I 0),(I 0),(I 0)] [(0,1,(I 0)),(2,1,a),(3,1,J)] λL=>cz eO (bO [(I 0),(I 0),(I 0),(I 0)] 1) [(0,4,L)] 1 d λM N=>cZ eO 4 32 [(I 0),(I 0),(I 0),(I 0)] D M N λO Q=>aJ s0 λR=>aq 7 R λS=>aC 1 S O Q λaE k=>ak .eql a f λT=>az T (ah P K4 [s0,f] k λU V=>ah P qa [U] V λl W=>ah P zV [l] W λaF e=>aJ s0 λX=>aq 2 X λY=>af e Y λag=>aW 1 ag f λai=>af e ai λaj=>aJ s0 λan=>aq 7 an λau=>af e au λav=>aP [(I 0),(.slice none 0 0),(.slice none 0 0)] [(0,1,aj),(1,1,l),(2,1,av)] λax=>aC 3 b ax e λaG m=>aZ 3 m b λay=>K ay m) (ah P EW [s0,a] k λaH aA=>Z aA))
def Pu(P:Program)(s0 a b:Value)(h:aa)(K:KT):Prop:=aB dJ (.agg #[(I 0),(.slice none 0 0),(.slice none 0 0)]) h λc d=>ah P Ah [s0,a,(I 0),(I (-1))] d λg e=>bK (σ:=bw []) (λx hh f=>Pt P s0 c K b hh (λhz=>f () hz)) () e
theorem acE(s0 a b:Value)(H:Pu Tryz.prog s0 a b h K):aE Tryz.prog Em [s0,a,b].toArray h K:=
 bT (bA:=(bD (Tryz.f169.body.getD .skip) 0 [(2,[])]).1) (c:=Tryz.f169.body.getD .skip) Tryz.func169 (by kernel_rfl) (by kernel_rfl) (by kernel_rfl) (of_decide_eq_true (by kernel_rfl))
  (Eq.mpr (by kernel_rfl) H)
def Pv(P:Program)(K:KT)(a:Value)(b:aa):Prop:=K a b
def Pw(P:Program)(n o:Value)(h:aa)(K:KT):Prop:=aB cq n h λa p=>aB iM o p λb f=>eW (σ:=bw [4]) (λJ=>aq 0 b λq=>af f q λr=>aS P (.func (.func Ai) #[] #[a]) [r].toArray f λs e=>az s (aq 1 b λt=>af e t λu=>aS P (.func (.func Ai) #[] #[a]) [u].toArray e λv c=>az v (aq 2 b λg=>af c g λi=>bx i λw=>af c a λy=>ah P kH [y] c λz j=>(af j g λA=>A=i)/\(aS P (.func (.func Aj) #[] #[]) [w,z].toArray j λB d=>az B (aq 3 b λk=>af d k λl=>bx l λC=>af d a λD=>ah P ct [D] d λE m=>(af m k λF=>F=l)/\(aS P (.func (.func Aj) #[] #[]) [C,E].toArray m λG H=>J (G,()) H)) (J ((.bool false),()) d))) (J ((.bool false),()) c)) (J ((.bool false),()) e)) (λx hh=>Pv P K x.1 hh)
theorem acF(a b:Value)(H:Pw Tryz.prog a b h K):aE Tryz.prog En [a,b].toArray h K:=
 bT (bA:=(bD (Tryz.f170.body.getD .skip) 0 [(3,[4])]).1) (c:=Tryz.f170.body.getD .skip) Tryz.func170 (by kernel_rfl) (by kernel_rfl) (by kernel_rfl) (of_decide_eq_true (by kernel_rfl))
  (Eq.mpr (by kernel_rfl) H)
def Gc(P:Program)(s0 a p4 b c d:Value)(h:aa)(K:KT):Prop:=aJ s0 λbC=>aq 0 bC λbD=>af h bD λf=>aJ s0 λbE=>aq 5 bE λe=>(ah P ct [f] h λg s=>(ah P cP [g] s λl t=>(bp t λM N=>(bp N λbF bG=>bp bG λbH bI=>aP [(.pointer none),(I 0),(I 0),.nilFunc,.nilFunc,(.map none),(.map none),(.map none)] [(0,1,l),(1,1,a),(2,1,b),(3,1,c),(4,1,d),(5,1,M),(6,1,bF),(7,1,bH)] λbJ=>aB cD bJ bI λbK bL=>bV 1 2 e a λbM=>aC 1 bM bK bL λu bN=>K (.tuple #[]) bN)/\(bp N λbO bP=>bp bP λbQ bR=>aP [(.pointer none),(I 0),(I 0),.nilFunc,.nilFunc,(.map none),(.map none),(.map none)] [(0,1,l),(1,1,a),(2,1,b),(3,1,c),(4,1,d),(5,1,M),(6,1,bQ),(7,1,bO)] λbS=>aB cD bS bR λbT bU=>bV 1 2 e a λbW=>aC 1 bW bT bU λp5 bX=>K (.tuple #[]) bX))/\(bp t λO Q=>(bp Q λbY bZ=>bp bZ λb5 b6=>aP [(.pointer none),(I 0),(I 0),.nilFunc,.nilFunc,(.map none),(.map none),(.map none)] [(0,1,l),(1,1,a),(2,1,b),(3,1,c),(4,1,d),(5,1,bY),(6,1,O),(7,1,b5)] λb7=>aB cD b7 b6 λb8 b9=>bV 1 2 e a λcc=>aC 1 cc b8 b9 λp6 cg=>K (.tuple #[]) cg)/\(bp Q λcj ck=>bp ck λcm cn=>aP [(.pointer none),(I 0),(I 0),.nilFunc,.nilFunc,(.map none),(.map none),(.map none)] [(0,1,l),(1,1,a),(2,1,b),(3,1,c),(4,1,d),(5,1,cm),(6,1,O),(7,1,cj)] λcq=>aB cD cq cn λcr cu=>bV 1 2 e a λcv=>aC 1 cv cr cu λp7 cw=>K (.tuple #[]) cw))/\(bp t λR S=>(bp S λcz cA=>bp cA λcB cC=>aP [(.pointer none),(I 0),(I 0),.nilFunc,.nilFunc,(.map none),(.map none),(.map none)] [(0,1,l),(1,1,a),(2,1,b),(3,1,c),(4,1,d),(5,1,cz),(6,1,cB),(7,1,R)] λcE=>aB cD cE cC λcF cG=>bV 1 2 e a λcH=>aC 1 cH cF cG λp8 cI=>K (.tuple #[]) cI)/\(bp S λcJ cK=>bp cK λcL cM=>aP [(.pointer none),(I 0),(I 0),.nilFunc,.nilFunc,(.map none),(.map none),(.map none)] [(0,1,l),(1,1,a),(2,1,b),(3,1,c),(4,1,d),(5,1,cL),(6,1,cJ),(7,1,R)] λcN=>aB cD cN cM λcO cQ=>bV 1 2 e a λcR=>aC 1 cR cO cQ λp9 cS=>K (.tuple #[]) cS)))/\(bp s λm v=>(ah P cP [g] v λT U=>(bp U λcT cU=>bp cU λcV cW=>aP [(.pointer none),(I 0),(I 0),.nilFunc,.nilFunc,(.map none),(.map none),(.map none)] [(0,1,T),(1,1,a),(2,1,b),(3,1,c),(4,1,d),(5,1,m),(6,1,cT),(7,1,cV)] λcZ=>aB cD cZ cW λc4 c5=>bV 1 2 e a λc6=>aC 1 c6 c4 c5 λqa c7=>K (.tuple #[]) c7)/\(bp U λc8 c9=>bp c9 λdc de=>aP [(.pointer none),(I 0),(I 0),.nilFunc,.nilFunc,(.map none),(.map none),(.map none)] [(0,1,T),(1,1,a),(2,1,b),(3,1,c),(4,1,d),(5,1,m),(6,1,dc),(7,1,c8)] λdg=>aB cD dg de λdh di=>bV 1 2 e a λdm=>aC 1 dm dh di λqb dn=>K (.tuple #[]) dn))/\(bp v λV W=>(ah P cP [g] W λdr dw=>bp dw λdx dy=>aP [(.pointer none),(I 0),(I 0),.nilFunc,.nilFunc,(.map none),(.map none),(.map none)] [(0,1,dr),(1,1,a),(2,1,b),(3,1,c),(4,1,d),(5,1,m),(6,1,V),(7,1,dx)] λdz=>aB cD dz dy λdA dB=>bV 1 2 e a λdD=>aC 1 dD dA dB λqc dF=>K (.tuple #[]) dF)/\(bp W λdG dH=>ah P cP [g] dH λdI dJ=>aP [(.pointer none),(I 0),(I 0),.nilFunc,.nilFunc,(.map none),(.map none),(.map none)] [(0,1,dI),(1,1,a),(2,1,b),(3,1,c),(4,1,d),(5,1,m),(6,1,V),(7,1,dG)] λdK=>aB cD dK dJ λdL dM=>bV 1 2 e a λdN=>aC 1 dN dL dM λqd dO=>K (.tuple #[]) dO))/\(bp v λX Y=>(ah P cP [g] Y λdP dQ=>bp dQ λdR dS=>aP [(.pointer none),(I 0),(I 0),.nilFunc,.nilFunc,(.map none),(.map none),(.map none)] [(0,1,dP),(1,1,a),(2,1,b),(3,1,c),(4,1,d),(5,1,m),(6,1,dR),(7,1,X)] λdU=>aB cD dU dS λdV dW=>bV 1 2 e a λdX=>aC 1 dX dV dW λqe dY=>K (.tuple #[]) dY)/\(bp Y λdZ ec=>ah P cP [g] ec λee ef=>aP [(.pointer none),(I 0),(I 0),.nilFunc,.nilFunc,(.map none),(.map none),(.map none)] [(0,1,ee),(1,1,a),(2,1,b),(3,1,c),(4,1,d),(5,1,m),(6,1,dZ),(7,1,X)] λei=>aB cD ei ef λej ek=>bV 1 2 e a λen=>aC 1 en ej ek λqf eo=>K (.tuple #[]) eo)))/\(bp s λn w=>(ah P cP [g] w λZ ag=>(bp ag λep er=>bp er λeu ew=>aP [(.pointer none),(I 0),(I 0),.nilFunc,.nilFunc,(.map none),(.map none),(.map none)] [(0,1,Z),(1,1,a),(2,1,b),(3,1,c),(4,1,d),(5,1,ep),(6,1,n),(7,1,eu)] λey=>aB cD ey ew λez eA=>bV 1 2 e a λeB=>aC 1 eB ez eA λqg eC=>K (.tuple #[]) eC)/\(bp ag λeD eE=>bp eE λeF eG=>aP [(.pointer none),(I 0),(I 0),.nilFunc,.nilFunc,(.map none),(.map none),(.map none)] [(0,1,Z),(1,1,a),(2,1,b),(3,1,c),(4,1,d),(5,1,eF),(6,1,n),(7,1,eD)] λeH=>aB cD eH eG λeL eM=>bV 1 2 e a λeN=>aC 1 eN eL eM λqh eO=>K (.tuple #[]) eO))/\(bp w λai aj=>(ah P cP [g] aj λeP eR=>bp eR λeS eT=>aP [(.pointer none),(I 0),(I 0),.nilFunc,.nilFunc,(.map none),(.map none),(.map none)] [(0,1,eP),(1,1,a),(2,1,b),(3,1,c),(4,1,d),(5,1,ai),(6,1,n),(7,1,eS)] λeU=>aB cD eU eT λeV eW=>bV 1 2 e a λeX=>aC 1 eX eV eW λqi eY=>K (.tuple #[]) eY)/\(bp aj λeZ e3=>ah P cP [g] e3 λe4 e5=>aP [(.pointer none),(I 0),(I 0),.nilFunc,.nilFunc,(.map none),(.map none),(.map none)] [(0,1,e4),(1,1,a),(2,1,b),(3,1,c),(4,1,d),(5,1,ai),(6,1,n),(7,1,eZ)] λe6=>aB cD e6 e5 λe7 e8=>bV 1 2 e a λe9=>aC 1 e9 e7 e8 λqj fc=>K (.tuple #[]) fc))/\(bp w λak an=>(ah P cP [g] an λfe ff=>bp ff λfh fk=>aP [(.pointer none),(I 0),(I 0),.nilFunc,.nilFunc,(.map none),(.map none),(.map none)] [(0,1,fe),(1,1,a),(2,1,b),(3,1,c),(4,1,d),(5,1,fh),(6,1,n),(7,1,ak)] λfm=>aB cD fm fk λfo fq=>bV 1 2 e a λfu=>aC 1 fu fo fq λqk fz=>K (.tuple #[]) fz)/\(bp an λfA fB=>ah P cP [g] fB λfC fD=>aP [(.pointer none),(I 0),(I 0),.nilFunc,.nilFunc,(.map none),(.map none),(.map none)] [(0,1,fC),(1,1,a),(2,1,b),(3,1,c),(4,1,d),(5,1,fA),(6,1,n),(7,1,ak)] λfE=>aB cD fE fD λfF fG=>bV 1 2 e a λfH=>aC 1 fH fF fG λql fI=>K (.tuple #[]) fI)))/\(bp s λo x=>(ah P cP [g] x λau av=>(bp av λfJ fK=>bp fK λfL fM=>aP [(.pointer none),(I 0),(I 0),.nilFunc,.nilFunc,(.map none),(.map none),(.map none)] [(0,1,au),(1,1,a),(2,1,b),(3,1,c),(4,1,d),(5,1,fJ),(6,1,fL),(7,1,o)] λfN=>aB cD fN fM λfO fP=>bV 1 2 e a λfQ=>aC 1 fQ fO fP λqm fR=>K (.tuple #[]) fR)/\(bp av λfS fT=>bp fT λfU fV=>aP [(.pointer none),(I 0),(I 0),.nilFunc,.nilFunc,(.map none),(.map none),(.map none)] [(0,1,au),(1,1,a),(2,1,b),(3,1,c),(4,1,d),(5,1,fU),(6,1,fS),(7,1,o)] λfW=>aB cD fW fV λfZ ga=>bV 1 2 e a λgb=>aC 1 gb fZ ga λqn gd=>K (.tuple #[]) gd))/\(bp x λax ay=>(ah P cP [g] ay λgf gh=>bp gh λgi gj=>aP [(.pointer none),(I 0),(I 0),.nilFunc,.nilFunc,(.map none),(.map none),(.map none)] [(0,1,gf),(1,1,a),(2,1,b),(3,1,c),(4,1,d),(5,1,ax),(6,1,gi),(7,1,o)] λgl=>aB cD gl gj λgm gp=>bV 1 2 e a λgq=>aC 1 gq gm gp λqo gr=>K (.tuple #[]) gr)/\(bp ay λgu gv=>ah P cP [g] gv λgw gx=>aP [(.pointer none),(I 0),(I 0),.nilFunc,.nilFunc,(.map none),(.map none),(.map none)] [(0,1,gw),(1,1,a),(2,1,b),(3,1,c),(4,1,d),(5,1,ax),(6,1,gu),(7,1,o)] λgy=>aB cD gy gx λgz gA=>bV 1 2 e a λgB=>aC 1 gB gz gA λqp gC=>K (.tuple #[]) gC))/\(bp x λaz aA=>(ah P cP [g] aA λgD gE=>bp gE λgF gG=>aP [(.pointer none),(I 0),(I 0),.nilFunc,.nilFunc,(.map none),(.map none),(.map none)] [(0,1,gD),(1,1,a),(2,1,b),(3,1,c),(4,1,d),(5,1,gF),(6,1,az),(7,1,o)] λgH=>aB cD gH gG λgI gJ=>bV 1 2 e a λgK=>aC 1 gK gI gJ λqq gL=>K (.tuple #[]) gL)/\(bp aA λgM gN=>ah P cP [g] gN λgO gP=>aP [(.pointer none),(I 0),(I 0),.nilFunc,.nilFunc,(.map none),(.map none),(.map none)] [(0,1,gO),(1,1,a),(2,1,b),(3,1,c),(4,1,d),(5,1,gM),(6,1,az),(7,1,o)] λgQ=>aB cD gQ gP λgR gT=>bV 1 2 e a λgU=>aC 1 gU gR gT λqs gV=>K (.tuple #[]) gV))))/\(bp h λi y=>(ah P ct [f] y λp z=>(ah P cP [p] z λaD aE=>(bp aE λgW gX=>bp gX λgY gZ=>aP [(.pointer none),(I 0),(I 0),.nilFunc,.nilFunc,(.map none),(.map none),(.map none)] [(0,1,aD),(1,1,a),(2,1,b),(3,1,c),(4,1,d),(5,1,i),(6,1,gW),(7,1,gY)] λhD=>aB cD hD gZ λhG hM=>bV 1 2 e a λhU=>aC 1 hU hG hM λqt ia=>K (.tuple #[]) ia)/\(bp aE λic ig=>bp ig λij iq=>aP [(.pointer none),(I 0),(I 0),.nilFunc,.nilFunc,(.map none),(.map none),(.map none)] [(0,1,aD),(1,1,a),(2,1,b),(3,1,c),(4,1,d),(5,1,i),(6,1,ij),(7,1,ic)] λir=>aB cD ir iq λiu iw=>bV 1 2 e a λiy=>aC 1 iy iu iw λqu iz=>K (.tuple #[]) iz))/\(bp z λaF aG=>(ah P cP [p] aG λiA iB=>bp iB λiC iD=>aP [(.pointer none),(I 0),(I 0),.nilFunc,.nilFunc,(.map none),(.map none),(.map none)] [(0,1,iA),(1,1,a),(2,1,b),(3,1,c),(4,1,d),(5,1,i),(6,1,aF),(7,1,iC)] λiE=>aB cD iE iD λiF iG=>bV 1 2 e a λiH=>aC 1 iH iF iG λqv iI=>K (.tuple #[]) iI)/\(bp aG λiJ iK=>ah P cP [p] iK λiL iM=>aP [(.pointer none),(I 0),(I 0),.nilFunc,.nilFunc,(.map none),(.map none),(.map none)] [(0,1,iL),(1,1,a),(2,1,b),(3,1,c),(4,1,d),(5,1,i),(6,1,aF),(7,1,iJ)] λiN=>aB cD iN iM λiO iP=>bV 1 2 e a λiQ=>aC 1 iQ iO iP λqw iR=>K (.tuple #[]) iR))/\(bp z λaH aI=>(ah P cP [p] aI λiS iT=>bp iT λiU iV=>aP [(.pointer none),(I 0),(I 0),.nilFunc,.nilFunc,(.map none),(.map none),(.map none)] [(0,1,iS),(1,1,a),(2,1,b),(3,1,c),(4,1,d),(5,1,i),(6,1,iU),(7,1,aH)] λiW=>aB cD iW iV λiX iY=>bV 1 2 e a λiZ=>aC 1 iZ iX iY λqx ja=>K (.tuple #[]) ja)/\(bp aI λjb jc=>ah P cP [p] jc λjd je=>aP [(.pointer none),(I 0),(I 0),.nilFunc,.nilFunc,(.map none),(.map none),(.map none)] [(0,1,jd),(1,1,a),(2,1,b),(3,1,c),(4,1,d),(5,1,i),(6,1,jb),(7,1,aH)] λjf=>aB cD jf je λjg jh=>bV 1 2 e a λji=>aC 1 ji jg jh λqy jj=>K (.tuple #[]) jj)))/\(bp y λA aK=>(ah P ct [f] aK λaL aM=>(ah P cP [aL] aM λjk jl=>bp jl λjm jo=>aP [(.pointer none),(I 0),(I 0),.nilFunc,.nilFunc,(.map none),(.map none),(.map none)] [(0,1,jk),(1,1,a),(2,1,b),(3,1,c),(4,1,d),(5,1,i),(6,1,A),(7,1,jm)] λjq=>aB cD jq jo λjr js=>bV 1 2 e a λjt=>aC 1 jt jr js λqz jv=>K (.tuple #[]) jv)/\(bp aM λjw jx=>ah P cP [aL] jx λjy jA=>aP [(.pointer none),(I 0),(I 0),.nilFunc,.nilFunc,(.map none),(.map none),(.map none)] [(0,1,jy),(1,1,a),(2,1,b),(3,1,c),(4,1,d),(5,1,i),(6,1,A),(7,1,jw)] λjB=>aB cD jB jA λjC jD=>bV 1 2 e a λjE=>aC 1 jE jC jD λqA jF=>K (.tuple #[]) jF))/\(bp aK λjG jH=>ah P ct [f] jH λjI jJ=>ah P cP [jI] jJ λjK jL=>aP [(.pointer none),(I 0),(I 0),.nilFunc,.nilFunc,(.map none),(.map none),(.map none)] [(0,1,jK),(1,1,a),(2,1,b),(3,1,c),(4,1,d),(5,1,i),(6,1,A),(7,1,jG)] λjM=>aB cD jM jL λjN jO=>bV 1 2 e a λjP=>aC 1 jP jN jO λqB jQ=>K (.tuple #[]) jQ))/\(bp y λB aN=>(ah P ct [f] aN λaO aQ=>(ah P cP [aO] aQ λjR jS=>bp jS λjT jU=>aP [(.pointer none),(I 0),(I 0),.nilFunc,.nilFunc,(.map none),(.map none),(.map none)] [(0,1,jR),(1,1,a),(2,1,b),(3,1,c),(4,1,d),(5,1,i),(6,1,jT),(7,1,B)] λjV=>aB cD jV jU λjW jX=>bV 1 2 e a λjY=>aC 1 jY jW jX λqC jZ=>K (.tuple #[]) jZ)/\(bp aQ λj0 j3=>ah P cP [aO] j3 λj4 j5=>aP [(.pointer none),(I 0),(I 0),.nilFunc,.nilFunc,(.map none),(.map none),(.map none)] [(0,1,j4),(1,1,a),(2,1,b),(3,1,c),(4,1,d),(5,1,i),(6,1,j0),(7,1,B)] λj6=>aB cD j6 j5 λj7 j8=>bV 1 2 e a λj9=>aC 1 j9 j7 j8 λqD kf=>K (.tuple #[]) kf))/\(bp aN λkg ki=>ah P ct [f] ki λkj kn=>ah P cP [kj] kn λko kq=>aP [(.pointer none),(I 0),(I 0),.nilFunc,.nilFunc,(.map none),(.map none),(.map none)] [(0,1,ko),(1,1,a),(2,1,b),(3,1,c),(4,1,d),(5,1,i),(6,1,kg),(7,1,B)] λkr=>aB cD kr kq λku kz=>bV 1 2 e a λkA=>aC 1 kA ku kz λqE kB=>K (.tuple #[]) kB)))/\(bp h λj C=>(ah P ct [f] C λq D=>(ah P cP [q] D λaR aS=>(bp aS λkC kD=>bp kD λkE kF=>aP [(.pointer none),(I 0),(I 0),.nilFunc,.nilFunc,(.map none),(.map none),(.map none)] [(0,1,aR),(1,1,a),(2,1,b),(3,1,c),(4,1,d),(5,1,kC),(6,1,j),(7,1,kE)] λkG=>aB cD kG kF λkH kI=>bV 1 2 e a λkJ=>aC 1 kJ kH kI λqF kK=>K (.tuple #[]) kK)/\(bp aS λkL kM=>bp kM λkN kO=>aP [(.pointer none),(I 0),(I 0),.nilFunc,.nilFunc,(.map none),(.map none),(.map none)] [(0,1,aR),(1,1,a),(2,1,b),(3,1,c),(4,1,d),(5,1,kN),(6,1,j),(7,1,kL)] λkP=>aB cD kP kO λkQ kR=>bV 1 2 e a λkS=>aC 1 kS kQ kR λqG kT=>K (.tuple #[]) kT))/\(bp D λaT aU=>(ah P cP [q] aU λkU kV=>bp kV λkW kX=>aP [(.pointer none),(I 0),(I 0),.nilFunc,.nilFunc,(.map none),(.map none),(.map none)] [(0,1,kU),(1,1,a),(2,1,b),(3,1,c),(4,1,d),(5,1,aT),(6,1,j),(7,1,kW)] λkY=>aB cD kY kX λkZ k3=>bV 1 2 e a λk4=>aC 1 k4 kZ k3 λqH k5=>K (.tuple #[]) k5)/\(bp aU λk6 k7=>ah P cP [q] k7 λk8 k9=>aP [(.pointer none),(I 0),(I 0),.nilFunc,.nilFunc,(.map none),(.map none),(.map none)] [(0,1,k8),(1,1,a),(2,1,b),(3,1,c),(4,1,d),(5,1,aT),(6,1,j),(7,1,k6)] λld=>aB cD ld k9 λlg lp=>bV 1 2 e a λlq=>aC 1 lq lg lp λqI lu=>K (.tuple #[]) lu))/\(bp D λaV aW=>(ah P cP [q] aW λlz lB=>bp lB λlC lD=>aP [(.pointer none),(I 0),(I 0),.nilFunc,.nilFunc,(.map none),(.map none),(.map none)] [(0,1,lz),(1,1,a),(2,1,b),(3,1,c),(4,1,d),(5,1,lC),(6,1,j),(7,1,aV)] λlE=>aB cD lE lD λlF lG=>bV 1 2 e a λlH=>aC 1 lH lF lG λqJ lI=>K (.tuple #[]) lI)/\(bp aW λlJ lK=>ah P cP [q] lK λlM lN=>aP [(.pointer none),(I 0),(I 0),.nilFunc,.nilFunc,(.map none),(.map none),(.map none)] [(0,1,lM),(1,1,a),(2,1,b),(3,1,c),(4,1,d),(5,1,lJ),(6,1,j),(7,1,aV)] λlP=>aB cD lP lN λlQ lR=>bV 1 2 e a λlS=>aC 1 lS lQ lR λqK lT=>K (.tuple #[]) lT)))/\(bp C λE aX=>(ah P ct [f] aX λaY aZ=>(ah P cP [aY] aZ λlU lV=>bp lV λlW lX=>aP [(.pointer none),(I 0),(I 0),.nilFunc,.nilFunc,(.map none),(.map none),(.map none)] [(0,1,lU),(1,1,a),(2,1,b),(3,1,c),(4,1,d),(5,1,E),(6,1,j),(7,1,lW)] λlY=>aB cD lY lX λlZ l5=>bV 1 2 e a λl6=>aC 1 l6 lZ l5 λqL l7=>K (.tuple #[]) l7)/\(bp aZ λl8 l9=>ah P cP [aY] l9 λmb mc=>aP [(.pointer none),(I 0),(I 0),.nilFunc,.nilFunc,(.map none),(.map none),(.map none)] [(0,1,mb),(1,1,a),(2,1,b),(3,1,c),(4,1,d),(5,1,E),(6,1,j),(7,1,l8)] λme=>aB cD me mc λmg mh=>bV 1 2 e a λmj=>aC 1 mj mg mh λqM mm=>K (.tuple #[]) mm))/\(bp aX λmo mq=>ah P ct [f] mq λmu mw=>ah P cP [mu] mw λmz mA=>aP [(.pointer none),(I 0),(I 0),.nilFunc,.nilFunc,(.map none),(.map none),(.map none)] [(0,1,mz),(1,1,a),(2,1,b),(3,1,c),(4,1,d),(5,1,E),(6,1,j),(7,1,mo)] λmB=>aB cD mB mA λmC mD=>bV 1 2 e a λmE=>aC 1 mE mC mD λqN mF=>K (.tuple #[]) mF))/\(bp C λF bf=>(ah P ct [f] bf λbg bh=>(ah P cP [bg] bh λmG mH=>bp mH λmI mJ=>aP [(.pointer none),(I 0),(I 0),.nilFunc,.nilFunc,(.map none),(.map none),(.map none)] [(0,1,mG),(1,1,a),(2,1,b),(3,1,c),(4,1,d),(5,1,mI),(6,1,j),(7,1,F)] λmK=>aB cD mK mJ λmL mM=>bV 1 2 e a λmN=>aC 1 mN mL mM λqO mO=>K (.tuple #[]) mO)/\(bp bh λmP mQ=>ah P cP [bg] mQ λmR mS=>aP [(.pointer none),(I 0),(I 0),.nilFunc,.nilFunc,(.map none),(.map none),(.map none)] [(0,1,mR),(1,1,a),(2,1,b),(3,1,c),(4,1,d),(5,1,mP),(6,1,j),(7,1,F)] λmT=>aB cD mT mS λmU mV=>bV 1 2 e a λmW=>aC 1 mW mU mV λqP mX=>K (.tuple #[]) mX))/\(bp bf λmY mZ=>ah P ct [f] mZ λnc ng=>ah P cP [nc] ng λnh ni=>aP [(.pointer none),(I 0),(I 0),.nilFunc,.nilFunc,(.map none),(.map none),(.map none)] [(0,1,nh),(1,1,a),(2,1,b),(3,1,c),(4,1,d),(5,1,mY),(6,1,j),(7,1,F)] λnj=>aB cD nj ni λnk nq=>bV 1 2 e a λnr=>aC 1 nr nk nq λqQ nt=>K (.tuple #[]) nt)))/\(bp h λk G=>(ah P ct [f] G λr H=>(ah P cP [r] H λbk bl=>(bp bl λnu nv=>bp nv λnw nx=>aP [(.pointer none),(I 0),(I 0),.nilFunc,.nilFunc,(.map none),(.map none),(.map none)] [(0,1,bk),(1,1,a),(2,1,b),(3,1,c),(4,1,d),(5,1,nu),(6,1,nw),(7,1,k)] λny=>aB cD ny nx λnA nB=>bV 1 2 e a λnC=>aC 1 nC nA nB λqR nD=>K (.tuple #[]) nD)/\(bp bl λnE nF=>bp nF λnG nH=>aP [(.pointer none),(I 0),(I 0),.nilFunc,.nilFunc,(.map none),(.map none),(.map none)] [(0,1,bk),(1,1,a),(2,1,b),(3,1,c),(4,1,d),(5,1,nG),(6,1,nE),(7,1,k)] λnI=>aB cD nI nH λnJ nK=>bV 1 2 e a λnL=>aC 1 nL nJ nK λqS nM=>K (.tuple #[]) nM))/\(bp H λbn bq=>(ah P cP [r] bq λnN nO=>bp nO λnP nQ=>aP [(.pointer none),(I 0),(I 0),.nilFunc,.nilFunc,(.map none),(.map none),(.map none)] [(0,1,nN),(1,1,a),(2,1,b),(3,1,c),(4,1,d),(5,1,bn),(6,1,nP),(7,1,k)] λnR=>aB cD nR nQ λnS nT=>bV 1 2 e a λnU=>aC 1 nU nS nT λqT nV=>K (.tuple #[]) nV)/\(bp bq λnW nX=>ah P cP [r] nX λnY nZ=>aP [(.pointer none),(I 0),(I 0),.nilFunc,.nilFunc,(.map none),(.map none),(.map none)] [(0,1,nY),(1,1,a),(2,1,b),(3,1,c),(4,1,d),(5,1,bn),(6,1,nW),(7,1,k)] λn4=>aB cD n4 nZ λn5 n7=>bV 1 2 e a λn8=>aC 1 n8 n5 n7 λqU n9=>K (.tuple #[]) n9))/\(bp H λbr bt=>(ah P cP [r] bt λoa ob=>bp ob λoc od=>aP [(.pointer none),(I 0),(I 0),.nilFunc,.nilFunc,(.map none),(.map none),(.map none)] [(0,1,oa),(1,1,a),(2,1,b),(3,1,c),(4,1,d),(5,1,oc),(6,1,br),(7,1,k)] λoe=>aB cD oe od λog oh=>bV 1 2 e a λom=>aC 1 om og oh λqV oo=>K (.tuple #[]) oo)/\(bp bt λoq ot=>ah P cP [r] ot λou ov=>aP [(.pointer none),(I 0),(I 0),.nilFunc,.nilFunc,(.map none),(.map none),(.map none)] [(0,1,ou),(1,1,a),(2,1,b),(3,1,c),(4,1,d),(5,1,oq),(6,1,br),(7,1,k)] λow=>aB cD ow ov λox oy=>bV 1 2 e a λoz=>aC 1 oz ox oy λqW oA=>K (.tuple #[]) oA)))/\(bp G λJ bu=>(ah P ct [f] bu λbw bx=>(ah P cP [bw] bx λoB oC=>bp oC λoD oE=>aP [(.pointer none),(I 0),(I 0),.nilFunc,.nilFunc,(.map none),(.map none),(.map none)] [(0,1,oB),(1,1,a),(2,1,b),(3,1,c),(4,1,d),(5,1,J),(6,1,oD),(7,1,k)] λoF=>aB cD oF oE λoG oH=>bV 1 2 e a λoI=>aC 1 oI oG oH λqX oJ=>K (.tuple #[]) oJ)/\(bp bx λoK oL=>ah P cP [bw] oL λoM oN=>aP [(.pointer none),(I 0),(I 0),.nilFunc,.nilFunc,(.map none),(.map none),(.map none)] [(0,1,oM),(1,1,a),(2,1,b),(3,1,c),(4,1,d),(5,1,J),(6,1,oK),(7,1,k)] λoO=>aB cD oO oN λoP oQ=>bV 1 2 e a λoR=>aC 1 oR oP oQ λqY oS=>K (.tuple #[]) oS))/\(bp bu λoT oU=>ah P ct [f] oU λoV oW=>ah P cP [oV] oW λoZ o3=>aP [(.pointer none),(I 0),(I 0),.nilFunc,.nilFunc,(.map none),(.map none),(.map none)] [(0,1,oZ),(1,1,a),(2,1,b),(3,1,c),(4,1,d),(5,1,J),(6,1,oT),(7,1,k)] λo4=>aB cD o4 o3 λo5 o6=>bV 1 2 e a λo7=>aC 1 o7 o5 o6 λqZ o8=>K (.tuple #[]) o8))/\(bp G λL bz=>(ah P ct [f] bz λbA bB=>(ah P cP [bA] bB λo9 pe=>bp pe λpg pn=>aP [(.pointer none),(I 0),(I 0),.nilFunc,.nilFunc,(.map none),(.map none),(.map none)] [(0,1,o9),(1,1,a),(2,1,b),(3,1,c),(4,1,d),(5,1,pg),(6,1,L),(7,1,k)] λpq=>aB cD pq pn λpz pE=>bV 1 2 e a λpF=>aC 1 pF pz pE λq3 pG=>K (.tuple #[]) pG)/\(bp bB λpH pI=>ah P cP [bA] pI λpJ pK=>aP [(.pointer none),(I 0),(I 0),.nilFunc,.nilFunc,(.map none),(.map none),(.map none)] [(0,1,pJ),(1,1,a),(2,1,b),(3,1,c),(4,1,d),(5,1,pH),(6,1,L),(7,1,k)] λpL=>aB cD pL pK λpM pN=>bV 1 2 e a λpO=>aC 1 pO pM pN λq4 pP=>K (.tuple #[]) pP))/\(bp bz λpQ pR=>ah P ct [f] pR λpS pT=>ah P cP [pS] pT λpU pV=>aP [(.pointer none),(I 0),(I 0),.nilFunc,.nilFunc,(.map none),(.map none),(.map none)] [(0,1,pU),(1,1,a),(2,1,b),(3,1,c),(4,1,d),(5,1,pQ),(6,1,L),(7,1,k)] λpW=>aB cD pW pV λpX pY=>bV 1 2 e a λpZ=>aC 1 pZ pX pY λq5 p0=>K (.tuple #[]) p0)))
theorem Px(s0 a b c d e:Value)(H:Gc Tryz.prog s0 a b c d e h K):aE Tryz.prog wE [s0,a,b,c,d,e].toArray h K:=
 aO Tryz.func171 (Eq.mpr (by kernel_rfl) H)
end Go.Proofs.YthglofkkjoiepaaGreatDoor

set_option maxRecDepth 100000
namespace Go.Proofs.YthglofkkjoiepaaGreatDoor
open Go Go.Mh
variable{h:aa}{K:KT}
set_option maxHeartbeats 0
def Py(P:Program)(a0:Value)(h:aa)(K:KT):Prop:=aB cC a0 h λb a=>aq 1 b λc=>af a c λd=>K d a
theorem acG(a0:Value)(H:Py Tryz.prog a0 h K):aE Tryz.prog Eo [a0].toArray h K:=
 aO Tryz.func172 (Eq.mpr (by kernel_rfl) H)
def Pz(P:Program)(a0:Value)(h:aa)(K:KT):Prop:=aB cC a0 h λb a=>aq 0 b λc=>af a c λd=>K d a
theorem acH(a0:Value)(H:Pz Tryz.prog a0 h K):aE Tryz.prog Ep [a0].toArray h K:=
 aO Tryz.func173 (Eq.mpr (by kernel_rfl) H)
def uf(P:Program)(f s0 b c:Value)(K:KT)(a:aa):Prop:=aJ f λg=>aq 1 g λi=>af a i λj=>ak .sub (I 1) j λk=>aJ s0 λl=>aq 5 l λm=>bV 1 2 m k λn=>af a n λo=>aJ o λp=>aq 5 p λq=>af a q λr=>de (.int .i64) (I 0) true a r b λd=>aX d 0 λe=>aX d 1 λs=>az s (ak .add c e λt=>aJ s0 λu=>aq 7 u λv=>aq 0 v λw=>af a w λx=>ak .lss t x λy=>az y (ak .add c e λz=>aJ s0 λA=>aq 7 A λB=>aq 0 B λC=>aC 1 C z a λH D=>aJ s0 λE=>aq 10 E λF=>aC 1 F b D λJ G=>K (.tuple #[]) G) (K (.tuple #[]) a)) (K (.tuple #[]) a)
def ug(P:Program)(a b d j k l s0:Value)(K:KT)(e:aa):Prop:=aJ a λm=>aq 5 m λn=>af e n λf=>aJ a λo=>aq 6 o λp=>af e p λg=>j8 (.int .i64) (I 0) f b e λq r=>aX q 1 λs=>jF f s d r λu t=>j8 (.int .i64) (I 0) g b t λv w=>aX v 1 λx=>jF g x j w λN c=>ak .mul (I 2) d λy=>aJ a λz=>aq 2 z λA=>af c A λB=>ak .mul B k λC=>ak .add y C λi=>az l (aJ a λD=>aq 0 D λE=>af c E λF=>ah P qg [F,b,i] c λO G=>uf P a s0 b d K G) (aJ a λH=>aq 0 H λJ=>af c J λL=>ah P oP [L,b,i] c λQ M=>uf P a s0 b d K M)
def Gd(P:Program)(s0 c b f d:Value)(h:aa)(K:KT):Prop:=ah P EX [s0,b] h λg a=>aX g 0 λi=>aX g 1 λk=>aJ c λl=>aq 5 l λm=>af a m λn=>de (.int .i64) (I 0) true a n b λj=>aX j 0 λo=>aX j 1 λe=>bS .not k λp=>az p (K (.tuple #[]) a) (aJ c λq=>aq 7 q λr=>af a r λs=>de (.int .i64) (I 0) false a s b λt=>ak .gtr t (I 0) λu=>az u (K (.tuple #[]) a) (az e (ak .leq o d λv=>az v (K (.tuple #[]) a) (ug P c b d f i e s0 K a)) (ug P c b d f i e s0 K a)))
theorem PA(s0 a b c d:Value)(H:Gd Tryz.prog s0 a b c d h K):aE Tryz.prog rE [s0,a,b,c,d].toArray h K:=
 aO Tryz.func174 (Eq.mpr (by kernel_rfl) H)
def AV(P:Program)(K:KT)(a:aa):Prop:=K (.pointer none) a
def PB(P:Program)(s0:Value)(h:aa)(K:KT):Prop:=aJ s0 λg=>aq 5 g λi=>bV 1 2 i (I 0) λj=>af h j λk=>aJ k λl=>aq 0 l λm=>af h m λn=>ah P tQ [n] h λc b=>aX c 0 λd=>aX c 1 λo=>aJ s0 λp=>aq 5 p λq=>bV 1 2 q (I 1) λr=>af b r λs=>aJ s λt=>aq 0 t λu=>af b u λv=>ah P tQ [v] b λe a=>aX e 0 λf=>aX e 1 λw=>bS .not o λx=>az x (AV P K a) (bS .not w λy=>az y (AV P K a) (ak .add d f λz=>aJ s0 λA=>aq 7 A λB=>aq 0 B λC=>af a C λD=>ak .mul (I 2) D λE=>ak .geq z E λF=>az F (AV P K a) (ak .leq d f λG=>az G (aJ s0 λH=>aq 5 H λJ=>bV 1 2 J (I 0) λL=>af a L λM=>K M a) (aJ s0 λN=>aq 5 N λO=>bV 1 2 O (I 1) λQ=>af a Q λR=>K R a))))
theorem acI(s0:Value)(H:PB Tryz.prog s0 h K):aE Tryz.prog wF [s0].toArray h K:=
 aO Tryz.func175 (Eq.mpr (by kernel_rfl) H)
def uh(P:Program)(a:Value)(Z:KT)(b:aa):Prop:=ak .add a (I 1) λc=>Z c b
def uj(P:Program)(s0 b d i p:Value)(Z:KT)(e:aa):Prop:=aJ s0 λq=>aq 7 q λr=>aq 2 r λs=>af e s λt=>aJ b λu=>aq 1 u λv=>af e v λw=>aP [(I 0),(I 0),(I 0),(I 0)] [(0,1,(I 1)),(1,1,w),(2,1,d)] λx=>cz eO (bO [(I 0),(I 0),(I 0),(I 0)] 1) [(0,4,x)] 1 e λy z=>cZ eO 4 32 [(I 0),(I 0),(I 0),(I 0)] t y z λA B=>aJ s0 λC=>aq 7 C λD=>aq 2 D λE=>aC 1 E A B λag j=>aJ s0 λF=>aq 0 F λG=>af j G λH=>ah P jN [H,d] j λk J=>aX k 0 λL=>aX k 1 λai=>aB cC (.agg #[(I 0),(I 0),(I 0)]) J λf M=>aC 3 f L M λaj a=>aJ b λN=>aq 4 N λO=>af a O λQ=>aZ 3 a f λR=>aJ b λS=>aq 5 S λl=>af a l λg=>de (.int .i64) (I 0) false a g i λm=>aq 2 f λn=>af a n λo=>ak .add m o λT=>aS P Q [R].toArray a λU c=>(af c l λV=>V=g)/\(de (.int .i64) (I 0) false c g i λW=>W=m)/\(af c n λX=>X=o)/\(ah P rE [s0,b,U,d,T] c λan Y=>uh P p Z Y)
def Ge(P:Program)(f g s0 d e:Value)(K:KT)(b:Value)(a:aa)(Z:KT):Prop:=ak .lss b f λi=>az i (aW 1 g b λj=>af a j λc=>aJ s0 λk=>aq 1 k λl=>aq 2 l λm=>af a m λn=>bx n λo=>ak .gtr o (I 0) λp=>az p (aJ s0 λq=>aq 1 q λr=>aq 2 r λs=>af a s λt=>aW 1 t c λu=>af a u λv=>bS .not v λw=>az w (uh P b Z a) (uj P s0 d c e b Z a)) (uj P s0 d c e b Z a)) (K (.tuple #[]) a)
def Gf(P:Program)(s0 a:Value)(h:aa)(K:KT):Prop:=aJ a λj=>aq 0 j λk=>af h k λl=>ah P oQ [l] h λd e=>aX d 0 λb=>aX d 1 λU=>aX d 2 λV=>aJ a λm=>aq 7 m λn=>af e n λf=>de (.int .i64) (I 0) false e f b λo=>ak .add o (I 1) λp=>dQ (.int .i64) f b p e λu c=>aJ s0 λq=>aq 7 q λr=>aq 2 r λs=>af c s λt=>aJ a λv=>aq 1 v λw=>af c w λy=>aJ a λz=>aq 5 z λA=>af c A λB=>de (.int .i64) (I 0) false c B b λC=>aP [(I 0),(I 0),(I 0),(I 0)] [(0,1,(I 0)),(1,1,y),(2,1,b),(3,1,C)] λD=>cz eO (bO [(I 0),(I 0),(I 0),(I 0)] 1) [(0,4,D)] 1 c λE F=>cZ eO 4 32 [(I 0),(I 0),(I 0),(I 0)] t E F λG H=>aJ s0 λJ=>aq 7 J λL=>aq 2 L λM=>aC 1 M G H λW g=>aJ a λN=>aq 3 N λO=>af g O λQ=>aS P Q [b].toArray g λi R=>bx i λS=>bK (σ:=bw [57]) (λx hh T=>Ge P S i s0 a b K x.1 hh (λa0 hz=>T (a0,()) hz)) ((I 0),()) R
theorem PC(s0 a:Value)(H:Gf Tryz.prog s0 a h K):aE Tryz.prog zU [s0,a].toArray h K:=
 bT (bA:=(bD (Tryz.f176.body.getD .skip) 0 [(4,[57])]).1) (c:=Tryz.f176.body.getD .skip) Tryz.func176 (by kernel_rfl) (by kernel_rfl) (by kernel_rfl) (of_decide_eq_true (by kernel_rfl))
  (Eq.mpr (by kernel_rfl) H)
def Gg(P:Program)(s0 b:Value)(h:aa)(K:KT):Prop:=aB tZ s0 h λs2 c=>aB ua b c λd a=>af a s2 λe=>aJ e λf=>aq 10 f λg=>af a g λi=>ah P K5 [i,(.func (.func EY) #[] #[d,s2])] a λj k=>K j k
theorem PD(s0 a:Value)(H:Gg Tryz.prog s0 a h K):aE Tryz.prog wG [s0,a].toArray h K:=
 aO Tryz.func177 (Eq.mpr (by kernel_rfl) H)
def PE(P:Program)(s0:Value)(K:KT)(a b:Value)(c:aa)(Z:Value->KT):Prop:=ak .lss a b λd=>az d (aW 1 s0 b λe=>af c e λf=>aW 1 s0 a λg=>af c g λi=>aW 1 s0 a λj=>aC 1 j f c λu k=>aW 1 s0 b λl=>aC 1 l i k λp m=>ak .add a (I 1) λn=>ak .sub b (I 1) λo=>Z n o m) (K (.tuple #[]) c)
def PF(P:Program)(s0:Value)(h:aa)(K:KT):Prop:=bx s0 λa=>ak .sub a (I 1) λb=>bK (σ:=bw [2,3]) (λx hh c=>PE P s0 K x.1 x.2.1 hh (λa0 d hz=>c (a0,(d,())) hz)) ((I 0),(b,())) h
theorem acJ(s0:Value)(H:PF Tryz.prog s0 h K):aE Tryz.prog zV [s0].toArray h K:=
 bT (bA:=(bD (Tryz.f178.body.getD .skip) 0 [(1,[2,3])]).1) (c:=Tryz.f178.body.getD .skip) Tryz.func178 (by kernel_rfl) (by kernel_rfl) (by kernel_rfl) (of_decide_eq_true (by kernel_rfl))
  (Eq.mpr (by kernel_rfl) H)
def PG(P:Program)(f g i:Value)(h:aa)(K:KT):Prop:=aB cq f h λn3 j=>aB eY g j λk l=>aB eG i l λb a=>aP [.nilFunc,(I 0)] [(0,1,(.func (.func Ak) #[] #[n3])),(1,1,(I 1))] λm=>aq 1 b λn=>af a n λo=>aq 2 b λc=>af a c λd=>aP [.nilFunc,(I 0)] [(0,1,(.func (.func Al) #[] #[k,n3])),(1,1,(I 19))] λp=>aS P (.func (.func EZ) #[] #[n3]) [o].toArray a λq e=>(af e c λr=>r=d)/\(aP [.nilFunc,(I 0)] [(0,1,q),(1,1,(I 17))] λs=>aS P (.func (.func EZ) #[] #[n3]) [d].toArray e λt u=>aP [.nilFunc,(I 0)] [(0,1,t),(1,1,(I 18))] λv=>cz Lr (bO [.nilFunc,(I 0)] 4) [(0,2,m),(2,2,s),(4,2,v),(6,2,p)] 4 u λw x=>ah P E0 [w] x λy z=>K y z)
theorem acK(a b c:Value)(H:PG Tryz.prog a b c h K):aE Tryz.prog Es [a,b,c].toArray h K:=
 aO Tryz.func179 (Eq.mpr (by kernel_rfl) H)
def PI(P:Program)(d e f g i:Value)(K:KT)(b a:Value)(c:aa)(Z:Value->KT):Prop:=ak .lss a d λj=>az j (cz au (bO [(I 0)] 1) [(0,1,a)] 1 c λk l=>cZ au 1 8 [(I 0)] b k l λm n=>ak .add a (I 1) λo=>Z m o n) (iH e (I 1) λp=>ah P K6 [b,p,(.func (.func K7) #[] #[f,g,i])] c λq r=>K q r)
def PJ(P:Program)(c d e f:Value)(h:aa)(K:KT):Prop:=aB eY c h λa g=>aB au d g λi j=>aB au e j λk b=>af b a λl=>ah P qf [l] b λm n=>bx m λo=>bK (σ:=bw [9,14]) (λx hh p=>PI P o f a i k K x.1 x.2.1 hh (λa0 q hz=>p (a0,(q,())) hz)) ((.slice none 0 0),((I 0),())) n
theorem acL(a b d e:Value)(H:PJ Tryz.prog a b d e h K):aE Tryz.prog wH [a,b,d,e].toArray h K:=
 bT (bA:=(bD (Tryz.f180.body.getD .skip) 0 [(4,[9,14])]).1) (c:=Tryz.f180.body.getD .skip) Tryz.func180 (by kernel_rfl) (by kernel_rfl) (by kernel_rfl) (of_decide_eq_true (by kernel_rfl))
  (Eq.mpr (by kernel_rfl) H)
def PK(P:Program)(c:aa)(a:Value)(L:Loop)(d:Value)(e:aa)(R:Exit->aa->Prop):Prop:=gY (c.size+1) L e λb=>af b a λf=>cz bY (bO [(I 0)] 1) [(0,1,d)] 1 b λg i=>cZ bY 1 8 [(I 0)] f g i λj k=>aC 1 a j k λm l=>R .normal l
def PM(P:Program)(l m n:Value)(h:aa)(K:KT):Prop:=aB eY l h λc o=>aB bR m o λp q=>aB au n q λf r=>aB gj (.slice none 0 0) r λa d=>af d c λs=>af d f λt=>ah P rH [s,t] d λv e=>bS .not v λw=>az w (aC 1 a (.slice none 0 0) e λu g=>af g a λres=>K res g) (af e c λy=>ah P E1 [y,(.func (.func wP) #[] #[c,p,f])] e λz b=>gd P z [15] (b.size+1) (b.push (.deferred (some []))) (λL x hh R=>PK P b a L x.1 hh R) (λi=>af i a λA=>aC 1 a A i λF B=>cH (b.size:: []) B λj=>af j a λC=>K C j) (λD=>cH (b.size:: []) D λk=>af k a λE=>K E k) [])
theorem acM(a b c:Value)(H:PM Tryz.prog a b c h K):aE Tryz.prog wJ [a,b,c].toArray h K:=
 aO Tryz.func181 (Eq.mpr (by kernel_rfl) H)
def PN(P:Program)(c:Value)(K:KT)(a:Value)(b:aa)(Z:KT):Prop:=ak .lss a (I 4) λd=>az d (qH 4 c a λe=>aS P e [].toArray b λi f=>ak .add a (I 1) λg=>Z g f) (K (.tuple #[]) b)
def PO(P:Program)(c d e:Value)(h:aa)(K:KT):Prop:=aB cq c h λn3 f=>aB eY d f λg i=>aB eG e i λb j=>aB fH .nilFunc j λa k=>aC 1 a (.func (.func rI) #[] #[n3]) k λu l=>aP [.nilFunc,.nilFunc,.nilFunc,.nilFunc] [(0,1,(.func (.func E2) #[] #[n3])),(1,1,(.func (.func E3) #[] #[a,b])),(2,1,(.func (.func E4) #[] #[a,b])),(3,1,(.func (.func E5) #[] #[g,n3]))] λm=>bK (σ:=bw [15]) (λx hh n=>PN P m K x.1 hh (λa0 hz=>n (a0,()) hz)) ((I 0),()) l
theorem acN(a b d:Value)(H:PO Tryz.prog a b d h K):aE Tryz.prog Et [a,b,d].toArray h K:=
 bT (bA:=(bD (Tryz.f183.body.getD .skip) 0 [(3,[15])]).1) (c:=Tryz.f183.body.getD .skip) Tryz.func183 (by kernel_rfl) (by kernel_rfl) (by kernel_rfl) (of_decide_eq_true (by kernel_rfl))
  (Eq.mpr (by kernel_rfl) H)
def PR(P:Program)(e a:Value)(h:aa)(K:KT):Prop:=aB dJ e h λf g=>aB dJ (.agg #[(I 0),(.slice none 0 0),(.slice none 0 0)]) g λb i=>ak .eql a (I 0) λj=>ah P nU [j,a] i λl c=>aZ 3 c f λk=>aC 3 b k c λu d=>aZ 3 d b λres=>K res d
theorem acO(a b:Value)(H:PR Tryz.prog a b h K):aE Tryz.prog tM [a,b].toArray h K:=
 aO Tryz.func184 (Eq.mpr (by kernel_rfl) H)
def PS(P:Program)(K:KT)(a:aa):Prop:=K (.slice none 0 0) a
def PT(P:Program)(g i s2 j:Value)(h:aa)(K:KT):Prop:=aB eY g h λa k=>aB bR i k λl m=>aB au s2 m λe n=>aB au j n λf c=>af c a λo=>af c e λp=>ah P rH [o,p] c λq b=>bS .not q λr=>az r (PS P K b) (af b a λs=>af b f λt=>ah P rH [s,t] b λu d=>bS .not u λv=>az v (PS P K d) (af d a λw=>ah P E1 [w,(.func (.func wR) #[] #[a,l,f,e])] d λx y=>ah P E6 [x] y λz A=>K z A))
theorem acP(a b s2 c:Value)(H:PT Tryz.prog a b s2 c h K):aE Tryz.prog zW [a,b,s2,c].toArray h K:=
 aO Tryz.func185 (Eq.mpr (by kernel_rfl) H)
def PU(P:Program)(a b:Value)(h:aa)(K:KT):Prop:=bS .not a λc=>az c (aP [(I 0)] [(0,1,b)] λd=>False) (K (.tuple #[]) h)
theorem acQ(a b:Value)(H:PU Tryz.prog a b h K):aE Tryz.prog nU [a,b].toArray h K:=
 aO Tryz.func186 (Eq.mpr (by kernel_rfl) H)
def PW(P:Program)(s0:Value)(h:aa)(K:KT):Prop:=aB uc s0 h λa b=>K (.func (.func E8) #[] #[a]) b
theorem acR(s0:Value)(H:PW Tryz.prog s0 h K):aE Tryz.prog zX [s0].toArray h K:=
 aO Tryz.func187 (Eq.mpr (by kernel_rfl) H)
def PX(P:Program)(e f c g:Value)(K Z:KT)(a:Value)(b:aa)(i:KT):Prop:=ak .lss a e λj=>az j (aW 1 f a λk=>af b k λl=>aP [(I 0),(I 0),(I 0),(I 0),(I 0),(I 0)] [(0,1,c),(1,1,a),(2,1,(I 7)),(3,1,l),(4,1,(I (-2147483648))),(5,1,(I 2147483648))] λm=>aS P g [m].toArray b λn d=>bS .not n λo=>az o (K (.tuple #[]) d) (ak .add a (I 1) λp=>i p d)) (ak .add c (I 1) λq=>Z q b)
def PY(P:Program)(e c f:Value)(K:KT)(b:Value)(a:aa)(Z:KT):Prop:=ak .lss b e λg=>az g (aq 1 c λi=>af a i λj=>aW 1 j b λk=>af a k λl=>aq 2 c λm=>af a m λn=>aW 1 n b λo=>af a o λp=>cz bY (bO [(I 0)] 2) [(0,1,l),(1,1,p)] 2 a λd q=>bx d λr=>bK (σ:=bw [24]) (λx hh s=>PX P r d b f K Z x.1 hh (λa0 hz=>s (a0,()) hz)) ((I 0),()) q) (K (.tuple #[]) a)
def PZ(P:Program)(b a:Value)(h:aa)(K:KT):Prop:=aq 1 a λc=>af h c λd=>bx d λe=>bK (σ:=bw [9]) (λx hh f=>PY P e a b K x.1 hh (λa0 hz=>f (a0,()) hz)) ((I 0),()) h
theorem acS(a b:Value)(H:PZ Tryz.prog a b h K):aE Tryz.prog Eu [a,b].toArray h K:=
 bT (bA:=(bD (Tryz.f188.body.getD .skip) 0 [(1,[9]),(7,[24])]).1) (c:=Tryz.f188.body.getD .skip) Tryz.func188 (by kernel_rfl) (by kernel_rfl) (by kernel_rfl) (of_decide_eq_true (by kernel_rfl))
  (Eq.mpr (by kernel_rfl) H)
def P0(P:Program)(f g i:Value)(K:KT)(j:Value)(Z:KT)(a:Value)(b:aa)(k:KT):Prop:=ak .lss a f λl=>az l (aW 6 g a λm=>aZ 6 b m λn=>aB lE (.agg #[(I 0),(I 0),(I 0),(I 0),(I 0),(I 0)]) b λc o=>aC 6 c n o λu d=>aZ 6 d c λp=>aS P i [p].toArray d λq e=>bS .not q λr=>az r (K (.tuple #[]) e) (ak .add a (I 1) λs=>k s e)) (ak .add j (I 1) λt=>Z t b)
def Qa(P:Program)(g i e j:Value)(K:KT)(a:Value)(d:aa)(Z:KT):Prop:=ak .lss a g λk=>az k (aW 3 i a λl=>aZ 3 d l λm=>aB cC (.agg #[(I 0),(I 0),(I 0)]) d λb n=>aC 3 b m n λu c=>aq 0 b λo=>af c o λp=>aP [(I 0),(I 0),(I 0),(I 0),(I 0),(I 0)] [(0,1,a),(1,1,(I 0)),(2,1,(I 9)),(3,1,p),(4,1,(I 0)),(5,1,e)] λq=>aq 1 b λr=>af c r λs=>aP [(I 0),(I 0),(I 0),(I 0),(I 0),(I 0)] [(0,1,a),(1,1,(I 1)),(2,1,(I 9)),(3,1,s),(4,1,(I 0)),(5,1,e)] λt=>aq 2 b λv=>af c v λw=>aP [(I 0),(I 0),(I 0),(I 0),(I 0),(I 0)] [(0,1,a),(1,1,(I 2)),(2,1,(I 10)),(3,1,w),(4,1,(I 0)),(5,1,(I 2147483648))] λy=>cz lE (bO [(I 0),(I 0),(I 0),(I 0),(I 0),(I 0)] 3) [(0,6,q),(6,6,t),(12,6,y)] 3 c λf z=>bx f λA=>bK (σ:=bw [34]) (λx hh B=>P0 P A f j K a Z x.1 hh (λa0 hz=>B (a0,()) hz)) ((I 0),()) z) (K (.tuple #[]) d)
def Qb(P:Program)(c a:Value)(h:aa)(K:KT):Prop:=aq 0 a λd=>af h d λe=>aq 3 a λf=>af h f λb=>bx b λg=>bK (σ:=bw [13]) (λx hh i=>Qa P g b e c K x.1 hh (λa0 hz=>i (a0,()) hz)) ((I 0),()) h
theorem acT(a b:Value)(H:Qb Tryz.prog a b h K):aE Tryz.prog Ew [a,b].toArray h K:=
 bT (bA:=(bD (Tryz.f189.body.getD .skip) 0 [(2,[13]),(8,[34])]).1) (c:=Tryz.f189.body.getD .skip) Tryz.func189 (by kernel_rfl) (by kernel_rfl) (by kernel_rfl) (of_decide_eq_true (by kernel_rfl))
  (Eq.mpr (by kernel_rfl) H)
def AW(P:Program)(d s0 e:Value)(K:KT)(a:Value)(b:aa)(Z:KT):Prop:=ak .lss a d λf=>az f (aW 1 s0 a λg=>af b g λi=>aS P e [i].toArray b λj c=>az j (K a c) (ak .add a (I 1) λk=>Z k c)) (K (I (-1)) b)
def AX(P:Program)(s0 a:Value)(h:aa)(K:KT):Prop:=bx s0 λb=>bK (σ:=bw [8]) (λx hh c=>AW P b s0 a K x.1 hh (λa0 hz=>c (a0,()) hz)) ((I 0),()) h
theorem Gh(s0 a:Value)(H:AX Tryz.prog s0 a h K):aE Tryz.prog zY [s0,a].toArray h K:=
 bT (bA:=(bD (Tryz.f193.body.getD .skip) 0 [(3,[8])]).1) (c:=Tryz.f193.body.getD .skip) Tryz.func193 (by kernel_rfl) (by kernel_rfl) (by kernel_rfl) (of_decide_eq_true (by kernel_rfl))
  (Eq.mpr (by kernel_rfl) H)
end Go.Proofs.YthglofkkjoiepaaGreatDoor

set_option maxRecDepth 100000
namespace Go.Proofs.YthglofkkjoiepaaGreatDoor
open Go Go.Mh
variable{h:aa}{K:KT}
set_option maxHeartbeats 0
def AY(P:Program)(b c d e:Value)(f:Value->KT)(g:Value)(a:aa):Prop:=af a b λi=>af a c λj=>af a d λk=>ah P z7 [i,j,k] a λn l=>ak .add e (I 1) λm=>f g m l
def Qc(P:Program)(b m:Value)(K:KT)(c d e:Value)(g:aa)(i:Value->KT):Prop:=bx d λn=>ak .gtr n (I 0) λo=>az o (ah P Ez [d,(.func (.func EA) #[] #[b])] g λp q=>aB au (I 0) q λa r=>aC 1 a p r λA j=>af j a λs=>aS P m [s].toArray j λt k=>bS .not t λu=>az u (K (.tuple #[]) k) (ah P EB [d,(.func (.func wK) #[] #[a])] k λl f=>ak .eql e (I 0) λv=>az v (af f c λw=>ah P zZ [w,(.slice none 0 0)] f λx y=>aC 1 b x y λB z=>AY P c b a e i l z) (AY P c b a e i l f))) (K (.tuple #[]) g)
def Qd(P:Program)(f c d g i:Value)(K:KT)(a:Value)(b:aa)(Z:KT):Prop:=ak .lss a f λj=>az j (aW 1 c a λk=>aC 1 k a b λu l=>ak .add a (I 1) λm=>Z m l) (af b d λn=>af b g λo=>cz au (bO [(I 0)] 1) [(0,1,o)] 1 b λp q=>ah P zZ [n,p] q λr s=>aB gj (.slice none 0 0) s λe t=>aC 1 e r t λz v=>bK (σ:=bw [4,7]) (λx hh w=>Qc P e i K d x.1 x.2.1 hh (λa0 y hz=>w (a0,(y,())) hz)) (c,((I 0),())) v)
def Qe(P:Program)(d a e:Value)(h:aa)(K:KT):Prop:=af h a λf=>ah P ct [f] h λb g=>c9 au 8 [(I 0)] b b g λc i=>bx c λj=>bK (σ:=bw [14]) (λx hh k=>Qd P j c a e d K x.1 hh (λa0 hz=>k (a0,()) hz)) ((I 0),()) i
theorem acU(a b d:Value)(H:Qe Tryz.prog a b d h K):aE Tryz.prog Ey [a,b,d].toArray h K:=
 bT (bA:=(bD (Tryz.f194.body.getD .skip) 0 [(3,[14]),(10,[4,7])]).1) (c:=Tryz.f194.body.getD .skip) Tryz.func194 (by kernel_rfl) (by kernel_rfl) (by kernel_rfl) (of_decide_eq_true (by kernel_rfl))
  (Eq.mpr (by kernel_rfl) H)
def Qf(P:Program)(d e f c:Value)(K:KT)(a:Value)(b:aa)(Z:KT):Prop:=ak .lss a d λg=>az g (aW 1 e a λi=>af b i λj=>ah P z7 [f,c,j] b λm k=>ak .add a (I 1) λl=>Z l k) (K c b)
def Qg(P:Program)(a b:Value)(h:aa)(K:KT):Prop:=cz bY (bO [(I 0)] 1) [(0,1,(I 72057594037927936))] 1 h λc d=>ah P ct [a] d λe f=>ah P zH [c,e] f λg i=>bx b λj=>bK (σ:=bw [14]) (λx hh k=>Qf P j b a g K x.1 hh (λa0 hz=>k (a0,()) hz)) ((I 0),()) i
theorem acV(a b:Value)(H:Qg Tryz.prog a b h K):aE Tryz.prog zZ [a,b].toArray h K:=
 bT (bA:=(bD (Tryz.f195.body.getD .skip) 0 [(4,[14])]).1) (c:=Tryz.f195.body.getD .skip) Tryz.func195 (by kernel_rfl) (by kernel_rfl) (by kernel_rfl) (of_decide_eq_true (by kernel_rfl))
  (Eq.mpr (by kernel_rfl) H)
def AZ(P:Program)(a:Value)(Z:Value->KT)(b:Value)(c:aa):Prop:=ak .add a (I 1) λd=>Z b d c
def Gi(P:Program)(a:Value)(Z:Value->KT)(b:Value)(c:aa):Prop:=AZ P a Z b c
def Qh(P:Program)(f l0 g:Value)(K:KT)(c a:Value)(b:aa)(Z:Value->KT):Prop:=ak .lss a f λi=>az i (aW 1 l0 a λj=>af b j λd=>ak .eql a (I 0) λk=>az k (Gi P a Z d b) (aS P g [d,c].toArray b λl e=>az l (Gi P a Z d e) (AZ P a Z c e))) (K c b)
def Qi(P:Program)(l0 a:Value)(h:aa)(K:KT):Prop:=bx l0 λb=>bK (σ:=bw [4,9]) (λx hh c=>Qh P b l0 a K x.1 x.2.1 hh (λa0 d hz=>c (a0,(d,())) hz)) ((I 0),((I 0),())) h
theorem acW(l0 a:Value)(H:Qi Tryz.prog l0 a h K):aE Tryz.prog Ez [l0,a].toArray h K:=
 bT (bA:=(bD (Tryz.f196.body.getD .skip) 0 [(3,[4,9])]).1) (c:=Tryz.f196.body.getD .skip) Tryz.func196 (by kernel_rfl) (by kernel_rfl) (by kernel_rfl) (of_decide_eq_true (by kernel_rfl))
  (Eq.mpr (by kernel_rfl) H)
def Qj(P:Program)(a0 b a:Value)(h:aa)(K:KT):Prop:=af h a λc=>aW 1 c a0 λd=>af h d λe=>af h a λf=>aW 1 f b λg=>af h g λi=>ak .gtr e i λj=>K j h
theorem acX(a0 a b:Value)(H:Qj Tryz.prog a0 a b h K):aE Tryz.prog EA [a0,a,b].toArray h K:=
 aO Tryz.func197 (Eq.mpr (by kernel_rfl) H)
def A0(P:Program)(a:Value)(Z:Value->KT)(b:Value)(c:aa):Prop:=ak .add a (I 1) λd=>Z b d c
def Qk(P:Program)(s0 f:Value)(K:KT)(a b:Value)(c:aa)(Z:Value->KT):Prop:=bx s0 λg=>ak .lss b g λi=>az i (aW 1 s0 b λj=>af c j λd=>aS P f [d].toArray c λk e=>bS .not k λl=>az l (aW 1 s0 a λm=>aC 1 m d e λu n=>ak .add a (I 1) λo=>A0 P b Z o n) (A0 P b Z a e)) (dY 1 s0 (some a) none none λp=>sG [(I 0)] p c λs q=>dY 1 s0 none (some a) none λr=>K r q)
def Ql(P:Program)(s0 b:Value)(h:aa)(K:KT):Prop:=ah P zY [s0,b] h λa c=>ak .eql a (I (-1)) λd=>az d (K s0 c) (ak .add a (I 1) λe=>bK (σ:=bw [5,6]) (λx hh f=>Qk P s0 b K x.1 x.2.1 hh (λa0 g hz=>f (a0,(g,())) hz)) (a,(e,())) c)
theorem acY(s0 a:Value)(H:Ql Tryz.prog s0 a h K):aE Tryz.prog EB [s0,a].toArray h K:=
 bT (bA:=(bD (Tryz.f198.body.getD .skip) 0 [(7,[5,6])]).1) (c:=Tryz.f198.body.getD .skip) Tryz.func198 (by kernel_rfl) (by kernel_rfl) (by kernel_rfl) (of_decide_eq_true (by kernel_rfl))
  (Eq.mpr (by kernel_rfl) H)
def Qm(P:Program)(a b:Value)(h:aa)(K:KT):Prop:=af h b λc=>ak .eql a c λd=>K d h
theorem acZ(a b:Value)(H:Qm Tryz.prog a b h K):aE Tryz.prog wK [a,b].toArray h K:=
 aO Tryz.func199 (Eq.mpr (by kernel_rfl) H)
def Qn(P:Program)(d e c:Value)(K:KT)(a:Value)(b:aa)(Z:KT):Prop:=ak .lss a d λf=>az f (aW 1 e a λg=>af b g λi=>aW 1 c a λj=>af b j λk=>jD k i λl=>aW 1 c a λm=>aC 1 m l b λu n=>ak .add a (I 1) λo=>Z o n) (K (.tuple #[]) b)
def Qo(P:Program)(b c d:Value)(h:aa)(K:KT):Prop:=ah P lC [b,d] h λe f=>lV 0 e λa=>bx a λg=>bK (σ:=bw [13]) (λx hh i=>Qn P g a c K x.1 hh (λa0 hz=>i (a0,()) hz)) ((I 0),()) f
theorem ac0(a b d:Value)(H:Qo Tryz.prog a b d h K):aE Tryz.prog z7 [a,b,d].toArray h K:=
 bT (bA:=(bD (Tryz.f200.body.getD .skip) 0 [(1,[13])]).1) (c:=Tryz.f200.body.getD .skip) Tryz.func200 (by kernel_rfl) (by kernel_rfl) (by kernel_rfl) (of_decide_eq_true (by kernel_rfl))
  (Eq.mpr (by kernel_rfl) H)
def Qp(P:Program)(a:Value)(h:aa)(K:KT):Prop:=bL false .ptr a (.pointer none) λb=>az b (K (I 0) h) (aJ a λc=>aq 0 c λd=>af h d λe=>bx e λf=>K f h)
theorem ac1(a:Value)(H:Qp Tryz.prog a h K):aE Tryz.prog EC [a].toArray h K:=
 aO Tryz.func201 (Eq.mpr (by kernel_rfl) H)
def Qq(P:Program)(l0:Value)(h:aa)(K:KT):Prop:=aW 1 l0 (I 0) λa=>af h a λb=>bx l0 λc=>bx l0 λd=>dY 1 l0 (some (I 1)) (some c) (some d) λe=>K (.tuple #[b,e]) h
theorem ac2(l0:Value)(H:Qq Tryz.prog l0 h K):aE Tryz.prog KY [l0].toArray h K:=
 aO Tryz.func202 (Eq.mpr (by kernel_rfl) H)
def Qr(P:Program)(c k:Value)(R:Exit->aa->Prop)(d l:Value)(a:aa):Prop:=az l (af a c λe=>aJ e λm=>aq 3 m λf=>af a f λg=>aq 0 d λi=>af a i λj=>af a c λn=>aJ n λo=>aq 3 o λp=>af a p λq=>aq 0 d λr=>af a r λs=>de (.int .i64) (.slice none 0 0) false a q s λt=>cz au (bO [(I 0)] 1) [(0,1,k)] 1 a λu v=>cZ au 1 8 [(I 0)] t u v λw b=>(af b c λx=>x=e)/\(af b f λy=>y=g)/\(af b i λz=>z=j)/\(dQ (.int .i64) g j w b λB A=>R .normal A)) (R .normal a)
def A3(P:Program)(n3 b c:Value)(R:Exit->aa->Prop)(a:aa):Prop:=eW (σ:=bw [15,16]) (λd=>af a n3 λe=>af a b λl=>aJ l λm=>aq 0 m λn=>aq 1 n λo=>af a o λp=>aW 1 p c λq=>af a q λf=>(ah P jN [e,f] a λg r=>aX g 0 λs=>aX g 1 λt=>aB cC (.agg #[(I 0),(I 0),(I 0)]) r λi u=>aC 3 i s u λC v=>d (i,(t,())) v)/\(aB cC (.agg #[(I 0),(I 0),(I 0)]) a λj w=>ah P jN [e,f] w λk y=>aX k 0 λz=>aX k 1 λA=>aC 3 j z y λD B=>d (j,(A,())) B)) (λx hh=>Qr P b c R x.1 x.2.1 hh)
def Qt(P:Program)(k l d e b n3:Value)(R:Exit->aa->Prop)(g f:Value)(a:aa)(m:Value->KT):Prop:=ak .lss f k λn=>az n (aW 1 l f λo=>af a o λi=>af a d λp=>aJ p λq=>aq 4 q λr=>af a r λs=>aW 1 s i λt=>af a t λu=>ah P Fa [g,u] a λv c=>af c e λj=>aW 1 j b λw=>af c w λx=>af c e λy=>aW 1 y i λz=>af c z λA=>ak .add x A λB=>aW 1 j b λC=>aC 1 C B c λT D=>ak .add f (I 1) λE=>m v E D) (af a e λF=>aW 1 F b λG=>af a G λH=>ak .eql H (I 0) λJ=>az J (af a d λL=>aJ L λM=>aq 4 M λN=>af a N λO=>aW 1 O b λQ=>aC 1 Q g a λU S=>A3 P n3 d b R S) (A3 P n3 d b R a))
def A4(P:Program)(b c e n3:Value)(R:Exit->aa->Prop)(f:Value)(a:aa):Prop:=af a b λg=>aJ g λi=>aq 3 i λj=>af a j λk=>de (.int .i64) (.slice none 0 0) false a k c λd=>bx d λl=>bK (σ:=bw [12,73]) (λx hh m=>Qt P l d b e c n3 R x.1 x.2.1 hh (λa0 n hz=>m (a0,(n,())) hz)) (f,((I 0),())) a
def Gj(P:Program)(l:aa)(r5 c m e n3:Value)(L:Loop)(b:Value)(n:aa)(R:Exit->aa->Prop):Prop:=gY (l.size+1) L n λa=>af a r5 λo=>ak .neq b o λp=>az p (af a c λf=>aJ f λq=>aq 0 q λr=>aq 0 r λg=>af a g λi=>aW 1 i b λj=>af a j λk=>af a m λs=>af a r5 λt=>ah P E9 [s,t,b] a λu d=>(af d c λv=>v=f)/\(af d g λw=>w=i)/\(af d j λx=>x=k)/\(ak .sub k u λy=>A4 P c b e n3 R y d)) (A4 P c b e n3 R (I 0) a)
def Qu(P:Program)(l m f d r5 n n3:Value)(K:KT)(e:Value)(a:aa)(Z:KT):Prop:=ak .lss e l λo=>az o (aW 7 m e λp=>aZ 7 a p λq=>aB gG (.agg #[(I 0),(.slice none 0 0),(.slice none 0 0),(.slice none 0 0),(.slice none 0 0),(.slice none 0 0),(.slice none 0 0)]) a λg r=>aC 7 g q r λN c=>af c f λi=>aq 0 g λs=>af c s λj=>aW 1 i j λt=>af c t λu=>ak .add u (I 1) λv=>aW 1 i j λw=>aC 1 w v c λO y=>ak .add e (I 1) λz=>Z z y) (af a d λA=>aJ A λB=>aq 0 B λC=>aq 2 C λD=>af a D λE=>ah P K8 [E] a λF b=>gd P F [49] (b.size+1) (b.push (.deferred (some []))) (λL x hh R=>Gj P b r5 d n f n3 L x.1 hh R) (λk=>af k d λG=>cH (b.size:: []) k λH=>K G H) (λJ=>cH (b.size:: []) J λM=>K (.pointer none) M) [])
def Gk(P:Program)(n3 a r5:Value)(K:KT)(g:Value)(b:aa):Prop:=af b n3 λi=>ah P ct [i] b λc j=>c9 au 8 [(I 0)] c c j λk l=>aB bR (.slice none 0 0) l λd m=>aC 1 d k m λp e=>af e a λf=>bx f λn=>bK (σ:=bw [31]) (λx hh o=>Qu P n f d g r5 a n3 K x.1 hh (λa0 hz=>o (a0,()) hz)) ((I 0),()) e
def Qv(P:Program)(aM aN aO:Value)(h:aa)(K:KT):Prop:=aB cq aM h λn3 aQ=>aB tY aN aQ λaR aS=>aB au aO aS λr5 e=>eW (σ:=bw [7]) (λJ=>af e n3 λg=>af e r5 λi=>af e n3 λa=>(ah P lC [g,i] e λb j=>(af j n3 λaT=>aT=a)/\((bp j λq y=>(ah P ct [a] y λk z=>(c9 bY 8 [(I 0)] k k z λaU A=>aP [(.slice none 0 0),(.slice none 0 0),(.slice none 0 0),(.map none),(.slice none 0 0)] [(0,3,b),(3,1,q),(4,1,aU)] λB=>(aB fI B A λaV aW=>aB gR (.pointer none) aW λC aX=>aC 1 C aV aX λu aY=>J (C,()) aY)/\(aB gR (.pointer none) A λD aZ=>aB fI B aZ λbf bg=>aC 1 D bf bg λfk bh=>J (D,()) bh))/\(aB gR (.pointer none) z λE bk=>c9 bY 8 [(I 0)] k k bk λbl bn=>aP [(.slice none 0 0),(.slice none 0 0),(.slice none 0 0),(.map none),(.slice none 0 0)] [(0,3,b),(3,1,q),(4,1,bl)] λbq=>aB fI bq bn λbr bt=>aC 1 E br bt λfm bu=>J (E,()) bu))/\(aB gR (.pointer none) y λF bx=>ah P ct [a] bx λG bz=>c9 bY 8 [(I 0)] G G bz λbA bB=>aP [(.slice none 0 0),(.slice none 0 0),(.slice none 0 0),(.map none),(.slice none 0 0)] [(0,3,b),(3,1,q),(4,1,bA)] λbC=>aB fI bC bB λbD bE=>aC 1 F bD bE λfo bF=>J (F,()) bF))/\(ah P ct [a] j λc r=>(bp r λH L=>(c9 bY 8 [(I 0)] c c L λbG M=>aP [(.slice none 0 0),(.slice none 0 0),(.slice none 0 0),(.map none),(.slice none 0 0)] [(0,3,b),(3,1,H),(4,1,bG)] λN=>(aB fI N M λbH bI=>aB gR (.pointer none) bI λO bJ=>aC 1 O bH bJ λfq bK=>J (O,()) bK)/\(aB gR (.pointer none) M λQ bL=>aB fI N bL λbM bN=>aC 1 Q bM bN λfu bO=>J (Q,()) bO))/\(aB gR (.pointer none) L λR bP=>c9 bY 8 [(I 0)] c c bP λbQ bR=>aP [(.slice none 0 0),(.slice none 0 0),(.slice none 0 0),(.map none),(.slice none 0 0)] [(0,3,b),(3,1,H),(4,1,bQ)] λbS=>aB fI bS bR λbT bU=>aC 1 R bT bU λfz bV=>J (R,()) bV))/\(c9 bY 8 [(I 0)] c c r λS T=>(bp T λbW U=>aP [(.slice none 0 0),(.slice none 0 0),(.slice none 0 0),(.map none),(.slice none 0 0)] [(0,3,b),(3,1,bW),(4,1,S)] λV=>(aB fI V U λbX bZ=>aB gR (.pointer none) bZ λW b5=>aC 1 W bX b5 λfA b6=>J (W,()) b6)/\(aB gR (.pointer none) U λX b7=>aB fI V b7 λb8 b9=>aC 1 X b8 b9 λfB cc=>J (X,()) cc))/\(aB gR (.pointer none) T λY cg=>bp cg λcj ck=>aP [(.slice none 0 0),(.slice none 0 0),(.slice none 0 0),(.map none),(.slice none 0 0)] [(0,3,b),(3,1,cj),(4,1,S)] λcm=>aB fI cm ck λcn cr=>aC 1 Y cn cr λfC cu=>J (Y,()) cu))/\(aB gR (.pointer none) r λl Z=>(bp Z λcv cw=>c9 bY 8 [(I 0)] c c cw λcz cA=>aP [(.slice none 0 0),(.slice none 0 0),(.slice none 0 0),(.map none),(.slice none 0 0)] [(0,3,b),(3,1,cv),(4,1,cz)] λcB=>aB fI cB cA λcC cD=>aC 1 l cC cD λfD cE=>J (l,()) cE)/\(c9 bY 8 [(I 0)] c c Z λcF cG=>bp cG λcH cI=>aP [(.slice none 0 0),(.slice none 0 0),(.slice none 0 0),(.map none),(.slice none 0 0)] [(0,3,b),(3,1,cH),(4,1,cF)] λcJ=>aB fI cJ cI λcK cL=>aC 1 l cK cL λfE cM=>J (l,()) cM)))/\(aB gR (.pointer none) j λf ag=>(bp ag λcN cO=>ah P ct [a] cO λai cP=>c9 bY 8 [(I 0)] ai ai cP λcQ cR=>aP [(.slice none 0 0),(.slice none 0 0),(.slice none 0 0),(.map none),(.slice none 0 0)] [(0,3,b),(3,1,cN),(4,1,cQ)] λcS=>aB fI cS cR λcT cU=>aC 1 f cT cU λfF cV=>J (f,()) cV)/\(ah P ct [a] ag λm aj=>(bp aj λcW cZ=>c9 bY 8 [(I 0)] m m cZ λc4 c5=>aP [(.slice none 0 0),(.slice none 0 0),(.slice none 0 0),(.map none),(.slice none 0 0)] [(0,3,b),(3,1,cW),(4,1,c4)] λc6=>aB fI c6 c5 λc7 c8=>aC 1 f c7 c8 λfG dc=>J (f,()) dc)/\(c9 bY 8 [(I 0)] m m aj λde dg=>bp dg λdh di=>aP [(.slice none 0 0),(.slice none 0 0),(.slice none 0 0),(.map none),(.slice none 0 0)] [(0,3,b),(3,1,dh),(4,1,de)] λdm=>aB fI dm di λdn dr=>aC 1 f dn dr λfH dw=>J (f,()) dw)))))/\(bp e λn ak=>(ah P lC [g,i] ak λs t=>(af t n3 λdx=>dx=a)/\((ah P ct [a] t λo an=>(c9 bY 8 [(I 0)] o o an λdy aq=>aP [(.slice none 0 0),(.slice none 0 0),(.slice none 0 0),(.map none),(.slice none 0 0)] [(0,3,s),(3,1,n),(4,1,dy)] λav=>(aB fI av aq λdz dA=>aB gR (.pointer none) dA λax dB=>aC 1 ax dz dB λfJ dD=>J (ax,()) dD)/\(aB gR (.pointer none) aq λay dF=>aB fI av dF λdG dH=>aC 1 ay dG dH λfK dI=>J (ay,()) dI))/\(aB gR (.pointer none) an λaz dJ=>c9 bY 8 [(I 0)] o o dJ λdK dL=>aP [(.slice none 0 0),(.slice none 0 0),(.slice none 0 0),(.map none),(.slice none 0 0)] [(0,3,s),(3,1,n),(4,1,dK)] λdM=>aB fI dM dL λdN dO=>aC 1 az dN dO λfL dP=>J (az,()) dP))/\(aB gR (.pointer none) t λaA dQ=>ah P ct [a] dQ λaD dR=>c9 bY 8 [(I 0)] aD aD dR λdS dU=>aP [(.slice none 0 0),(.slice none 0 0),(.slice none 0 0),(.map none),(.slice none 0 0)] [(0,3,s),(3,1,n),(4,1,dS)] λdV=>aB fI dV dU λdW dX=>aC 1 aA dW dX λfM dY=>J (aA,()) dY)))/\(aB gR (.pointer none) ak λaE dZ=>ah P lC [g,i] dZ λec aF=>(af aF n3 λee=>ee=a)/\(ah P ct [a] aF λaG ef=>c9 bY 8 [(I 0)] aG aG ef λei ej=>aP [(.slice none 0 0),(.slice none 0 0),(.slice none 0 0),(.map none),(.slice none 0 0)] [(0,3,ec),(3,1,n),(4,1,ei)] λek=>aB fI ek ej λen eo=>aC 1 aE en eo λfN ep=>J (aE,()) ep)))/\(aB gR (.pointer none) e λd aH=>(ah P lC [g,i] aH λv w=>(af w n3 λer=>er=a)/\((bp w λeu ew=>ah P ct [a] ew λaI ey=>c9 bY 8 [(I 0)] aI aI ey λez eA=>aP [(.slice none 0 0),(.slice none 0 0),(.slice none 0 0),(.map none),(.slice none 0 0)] [(0,3,v),(3,1,eu),(4,1,ez)] λeB=>aB fI eB eA λeC eD=>aC 1 d eC eD λfO eE=>J (d,()) eE)/\(ah P ct [a] w λp aJ=>(bp aJ λeF eG=>c9 bY 8 [(I 0)] p p eG λeH eL=>aP [(.slice none 0 0),(.slice none 0 0),(.slice none 0 0),(.map none),(.slice none 0 0)] [(0,3,v),(3,1,eF),(4,1,eH)] λeM=>aB fI eM eL λeN eO=>aC 1 d eN eO λfP eP=>J (d,()) eP)/\(c9 bY 8 [(I 0)] p p aJ λeR eS=>bp eS λeT eU=>aP [(.slice none 0 0),(.slice none 0 0),(.slice none 0 0),(.map none),(.slice none 0 0)] [(0,3,v),(3,1,eT),(4,1,eR)] λeV=>aB fI eV eU λeX eY=>aC 1 d eX eY λfQ eZ=>J (d,()) eZ))))/\(bp aH λe3 e4=>ah P lC [g,i] e4 λe5 aK=>(af aK n3 λe6=>e6=a)/\(ah P ct [a] aK λaL e7=>c9 bY 8 [(I 0)] aL aL e7 λe8 e9=>aP [(.slice none 0 0),(.slice none 0 0),(.slice none 0 0),(.map none),(.slice none 0 0)] [(0,3,e5),(3,1,e3),(4,1,e8)] λfc=>aB fI fc e9 λfe ff=>aC 1 d fe ff λfR fh=>J (d,()) fh)))) (λx hh=>Gk P n3 aR r5 K x.1 hh)
theorem ac3(a b d:Value)(H:Qv Tryz.prog a b d h K):aE Tryz.prog ED [a,b,d].toArray h K:=
 bT (bA:=(bD (Tryz.f203.body.getD .skip) 0 [(1,[7]),(5,[31]),(17,[12,73]),(25,[15,16])]).1) (c:=Tryz.f203.body.getD .skip) Tryz.func203 (by kernel_rfl) (by kernel_rfl) (by kernel_rfl) (of_decide_eq_true (by kernel_rfl))
  (Eq.mpr (by kernel_rfl) H)
def xm(P:Program)(a b:Value)(R:Exit->aa->Prop)(c:aa):Prop:=aC 1 a b c λe d=>R .normal d
def Qw(P:Program)(j:aa)(f a:Value)(L:Loop)(c:Value)(k:aa)(R:Exit->aa->Prop):Prop:=gY (j.size+1) L k λi=>af i f λl=>aS P l [c].toArray i λg b=>ak .gtr g (I 0) λm=>az m (af b a λn=>ak .lss n (I 0) λo=>az o (xm P a c R b) (af b f λp=>af b a λq=>aS P p [q].toArray b λr d=>ak .gtr g r λs=>az s (xm P a c R d) (af d f λt=>af d a λu=>aS P t [u].toArray d λv e=>ak .eql g v λw=>az w (af e a λx=>ak .lss c x λy=>az y (xm P a c R e) (R .normal e)) (R .normal e)))) (R .normal b)
def Qx(P:Program)(l0 d:Value)(h:aa)(K:KT):Prop:=aB kK d h λe f=>aB au (I 0) f λb g=>aC 1 b (I (-1)) g λu a=>gd P l0 [9] (a.size+1) (a.push (.deferred (some []))) (λL x hh R=>Qw P a e b L x.1 hh R) (λc=>af c b λi=>cH (a.size:: []) c λj=>K i j) (λk=>cH (a.size:: []) k λl=>K (I 0) l) []
theorem ac4(l0 a:Value)(H:Qx Tryz.prog l0 a h K):aE Tryz.prog z8 [l0,a].toArray h K:=
 aO Tryz.func204 (Eq.mpr (by kernel_rfl) H)
end Go.Proofs.YthglofkkjoiepaaGreatDoor

set_option maxRecDepth 100000
namespace Go.Proofs.YthglofkkjoiepaaGreatDoor
open Go Go.Mh
variable{h:aa}{K:KT}
set_option maxHeartbeats 0
def Qy(P:Program)(s0:Value)(h:aa)(K:KT):Prop:=aB bR s0 h λa b=>K (.func (.func tR) #[] #[a]) b
theorem ac5(s0:Value)(H:Qy Tryz.prog s0 h K):aE Tryz.prog tN [s0].toArray h K:=
 aO Tryz.func205 (Eq.mpr (by kernel_rfl) H)
def Qz(P:Program)(a b:Value)(h:aa)(K:KT):Prop:=aJ a λc=>aq 4 c λd=>af h d λe=>aW 1 e b λf=>af h f λg=>K g h
theorem ac6(a b:Value)(H:Qz Tryz.prog a b h K):aE Tryz.prog Aa [a,b].toArray h K:=
 aO Tryz.func206 (Eq.mpr (by kernel_rfl) H)
def QA(P:Program)(s0 a:Value)(h:aa)(K:KT):Prop:=ah P K9 [s0,a] h λb c=>ak .geq b (I 0) λd=>K d c
theorem ac7(s0 a:Value)(H:QA Tryz.prog s0 a h K):aE Tryz.prog EE [s0,a].toArray h K:=
 aO Tryz.func207 (Eq.mpr (by kernel_rfl) H)
def QB(P:Program)(b c:Value)(h:aa)(K:KT):Prop:=aB gG b h λd a=>aq 0 d λe=>af a e λf=>af a c λg=>ak .eql f g λi=>K i a
theorem ac8(a b:Value)(H:QB Tryz.prog a b h K):aE Tryz.prog Ab [a,b].toArray h K:=
 aO Tryz.func208 (Eq.mpr (by kernel_rfl) H)
def QC(P:Program)(a b:Value)(h:aa)(K:KT):Prop:=bL true .ptr a (.pointer none) λc=>az c (ak .geq b (I 0) λd=>az d (ah P ct [a] h λe f=>ak .lss b e λg=>K g f) (K (.bool false) h)) (K (.bool false) h)
theorem ac9(a b:Value)(H:QC Tryz.prog a b h K):aE Tryz.prog EF [a,b].toArray h K:=
 aO Tryz.func209 (Eq.mpr (by kernel_rfl) H)
def QD(P:Program)(e f g:Value)(K:KT)(a:Value)(b:aa)(Z:KT):Prop:=ak .lss a e λi=>az i (af b f λj=>ah P Ac [j,a] b λc k=>aX c 0 λl=>aX c 1 λm=>aX c 2 λq=>aS P g [l,m].toArray k λn d=>bS .not n λo=>az o (K (.tuple #[]) d) (ak .add a (I 1) λp=>Z p d)) (K (.tuple #[]) b)
def QE(P:Program)(b a:Value)(h:aa)(K:KT):Prop:=af h a λc=>ah P ct [c] h λd e=>bK (σ:=bw [9]) (λx hh f=>QD P d a b K x.1 hh (λa0 hz=>f (a0,()) hz)) ((I 0),()) e
theorem ada(a b:Value)(H:QE Tryz.prog a b h K):aE Tryz.prog EG [a,b].toArray h K:=
 bT (bA:=(bD (Tryz.f210.body.getD .skip) 0 [(1,[9])]).1) (c:=Tryz.f210.body.getD .skip) Tryz.func210 (by kernel_rfl) (by kernel_rfl) (by kernel_rfl) (of_decide_eq_true (by kernel_rfl))
  (Eq.mpr (by kernel_rfl) H)
def QF(P:Program)(a b:Value)(h:aa)(K:KT):Prop:=bL false .ptr a (.pointer none) λf=>az f (K (.tuple #[(I 0),(I 0),(.bool false)]) h) (aJ a λg=>aq 0 g λi=>aq 1 i λj=>af h j λk=>ah P Am [k,b] h λc d=>aX c 0 λl=>aX c 1 λt=>aJ a λm=>aq 0 m λn=>aq 2 n λo=>af d o λp=>ah P Am [p,b] d λe q=>aX e 0 λr=>aX e 1 λs=>K (.tuple #[l,r,s]) q)
theorem adb(a b:Value)(H:QF Tryz.prog a b h K):aE Tryz.prog Ac [a,b].toArray h K:=
 aO Tryz.func211 (Eq.mpr (by kernel_rfl) H)
def QG(P:Program)(a b c d:Value)(h:aa)(K:KT):Prop:=aq 0 b λe=>af h e λf=>ak .sub a f λg=>af h c λi=>ak .mul g i λj=>af h d λk=>ak .quo j k λl=>K l h
theorem ade(a b c d:Value)(H:QG Tryz.prog a b c d h K):aE Tryz.prog EH [a,b,c,d].toArray h K:=
 aO Tryz.func212 (Eq.mpr (by kernel_rfl) H)
def QH(P:Program)(b:Value)(h:aa)(K:KT):Prop:=af h b λa=>aJ a λc=>aq 2 c λd=>af h d λe=>ak .add e (I 1) λf=>aJ a λg=>aq 2 g λi=>aC 1 i f h λu j=>K (.tuple #[]) j
theorem adf(a:Value){h:aa}{K:aa->Prop}(H:QH Tryz.prog a h (λ_ h'=>K h')):jo Tryz.prog EI [a].toArray h K:=
 abQ (bA:=(bD (Tryz.f213.body.getD .skip) 0 []).1) (c:=Tryz.f213.body.getD .skip) Tryz.func213 (by kernel_rfl) (by kernel_rfl) (by kernel_rfl) (of_decide_eq_true (by kernel_rfl))
  (Eq.mpr (by kernel_rfl) H)
def Gl(P:Program)(a:Value)(Z:Value->Value->KT)(b c:Value)(d:aa):Prop:=ak .add a (I 1) λe=>Z b c e d
def QI(P:Program)(g i:Value)(K:KT)(c b a:Value)(d:aa)(Z:Value->Value->KT):Prop:=ak .lss a (I 4) λj=>az j (ah P Ad [g,a] d λk l=>ah P Fb [i,k] l λe f=>ak .gtr e b λm=>az m (Gl P a Z a e f) (Gl P a Z c b f)) (K (.tuple #[c,b]) d)
def QJ(P:Program)(a b:Value)(h:aa)(K:KT):Prop:=ah P An [] h λg c=>bK (σ:=bw [4,5,9]) (λx hh d=>QI P a b K x.1 x.2.1 x.2.2.1 hh (λa0 e f hz=>d (a0,(e,(f,()))) hz)) ((I 0),((I 0),((I 0),()))) c
theorem adg(a b:Value)(H:QJ Tryz.prog a b h K):aE Tryz.prog EJ [a,b].toArray h K:=
 bT (bA:=(bD (Tryz.f214.body.getD .skip) 0 [(3,[4,5,9])]).1) (c:=Tryz.f214.body.getD .skip) Tryz.func214 (by kernel_rfl) (by kernel_rfl) (by kernel_rfl) (of_decide_eq_true (by kernel_rfl))
  (Eq.mpr (by kernel_rfl) H)
def QL(P:Program)(b c:Value)(h:aa)(K:KT):Prop:=aB lF b h λp2 d=>ah P An [] d λe f=>qH 4 e c λg=>aB wZ .nilFunc f λa i=>aC 1 a g i λu j=>K (.func (.func Fc) #[] #[p2,a]) j
theorem adh(a b:Value)(H:QL Tryz.prog a b h K):aE Tryz.prog Ad [a,b].toArray h K:=
 aO Tryz.func215 (Eq.mpr (by kernel_rfl) H)
def QM(P:Program)(b c:Value)(h:aa)(K:KT):Prop:=ah P qa [b] h λa d=>ah P tS [a,c] d λf e=>K a e
theorem adi(a b:Value)(H:QM Tryz.prog a b h K):aE Tryz.prog EK [a,b].toArray h K:=
 aO Tryz.func216 (Eq.mpr (by kernel_rfl) H)
def QN(P:Program)(b c a:Value)(h:aa)(K:KT):Prop:=af h a λf=>af h a λd=>aS P f [b].toArray h λg e=>(af e a λi=>i=d)/\(aS P d [c].toArray e λj k=>ah P tO [g,j] k λl m=>ah P wM [b,c] m λn o=>cz au (bO [(I 0)] 2) [(0,1,l),(1,1,n)] 2 o λp q=>ah P wL [p] q λr s=>K r s)
theorem adj(a b c:Value)(H:QN Tryz.prog a b c h K):aE Tryz.prog EL [a,b,c].toArray h K:=
 aO Tryz.func217 (Eq.mpr (by kernel_rfl) H)
def Gm(P:Program)(d e:Value)(K:KT)(b:Value)(a:aa)(Z:KT):Prop:=ak .lss b d λf=>az f (aW 1 e b λg=>af a g λc=>ak .neq c (I 0) λi=>az i (K c a) (ak .add b (I 1) λj=>Z j a)) (K (I 0) a)
def Gn(P:Program)(a:Value)(h:aa)(K:KT):Prop:=bx a λb=>bK (σ:=bw [8]) (λx hh c=>Gm P b a K x.1 hh (λa0 hz=>c (a0,()) hz)) ((I 0),()) h
theorem QO(a:Value)(H:Gn Tryz.prog a h K):aE Tryz.prog wL [a].toArray h K:=
 bT (bA:=(bD (Tryz.f218.body.getD .skip) 0 [(4,[8])]).1) (c:=Tryz.f218.body.getD .skip) Tryz.func218 (by kernel_rfl) (by kernel_rfl) (by kernel_rfl) (of_decide_eq_true (by kernel_rfl))
  (Eq.mpr (by kernel_rfl) H)
def QS(P:Program)(b c:Value)(h:aa)(K:KT):Prop:=ah P Ao [b] h λe f=>ah P Ao [c] f λd a=>az e (az d (K (I 0) a) (K (I (-1)) a)) (az d (K (I 1) a) (ak .lss b c λg=>az g (K (I (-1)) a) (ak .gtr b c λi=>az i (K (I 1) a) (K (I 0) a))))
theorem QT(a b:Value)(H:QS Tryz.prog a b h K):aE Tryz.prog tO [a,b].toArray h K:=
 aO Tryz.func219 (Eq.mpr (by kernel_rfl) H)
def QU(P:Program)(b c:Value)(h:aa)(K:KT):Prop:=ah P Ap [b] h λe f=>ah P Ap [c] f λd a=>az e (az d (K (I 0) a) (K (I (-1)) a)) (az d (K (I 1) a) (ak .lss b c λg=>az g (K (I (-1)) a) (ak .gtr b c λi=>az i (K (I 1) a) (K (I 0) a))))
theorem QV(a b:Value)(H:QU Tryz.prog a b h K):aE Tryz.prog wM [a,b].toArray h K:=
 aO Tryz.func220 (Eq.mpr (by kernel_rfl) H)
def QW(P:Program)(d e f g:Value)(h:aa)(K:KT):Prop:=af h e λi=>ah P jN [i,d] h λb j=>aX b 0 λk=>aX b 1 λx=>aB cC (.agg #[(I 0),(I 0),(I 0)]) j λc l=>aC 3 c k l λu a=>af a f λm=>aJ m λn=>aq 0 n λo=>af a o λp=>aq 0 c λq=>af a q λr=>aW 1 p r λs=>af a s λt=>af a g λv=>ak .neq t v λw=>K w a
theorem adk(a b c d:Value)(H:QW Tryz.prog a b c d h K):aE Tryz.prog rF [a,b,c,d].toArray h K:=
 aO Tryz.func221 (Eq.mpr (by kernel_rfl) H)
def QX(P:Program)(a b:Value)(h:aa)(K:KT):Prop:=aB mw a h λc d=>aB fH b d λe f=>K (.func (.func Ff) #[] #[c,e]) f
theorem adl(a b:Value)(H:QX Tryz.prog a b h K):aE Tryz.prog KZ [a,b].toArray h K:=
 aO Tryz.func222 (Eq.mpr (by kernel_rfl) H)
def QY(P:Program)(K:KT)(a:Value)(b:aa):Prop:=K a b
def QZ(P:Program)(a e f g b:Value)(h:aa)(K:KT):Prop:=eW (σ:=bw [6]) (λJ=>af h e λi=>aJ i λj=>aq 0 j λk=>af h k λl=>aW 1 l a λm=>af h m λn=>af h f λo=>ak .eql n o λp=>az p (af h g λq=>af h b λc=>ah P rC [q,a] h λr d=>(af d b λs=>s=c)/\(ah P zN [r,c] d λt u=>J (t,()) u)) (J ((.bool false),()) h)) (λx hh=>QY P K x.1 hh)
theorem adm(a b d e f:Value)(H:QZ Tryz.prog a b d e f h K):aE Tryz.prog Ae [a,b,d,e,f].toArray h K:=
 bT (bA:=(bD (Tryz.f223.body.getD .skip) 0 [(1,[6])]).1) (c:=Tryz.f223.body.getD .skip) Tryz.func223 (by kernel_rfl) (by kernel_rfl) (by kernel_rfl) (of_decide_eq_true (by kernel_rfl))
  (Eq.mpr (by kernel_rfl) H)
def A5(P:Program)(a:Value)(Z:Value->KT)(b:Value)(c:aa):Prop:=ak .add a (I 1) λd=>Z b d c
def Q0(P:Program)(g i d:Value)(K:KT)(a b:Value)(c:aa)(Z:Value->KT):Prop:=ak .lss b g λj=>az j (aW 1 i b λk=>af c k λe=>ah P Fg [d,e] c λl f=>az l (bx a λm=>ah P Lb [d,e] f λn o=>ah P La [m,n] o λp q=>ah P Fh [a,p,(.bool true)] q λr s=>A5 P b Z r s) (A5 P b Z a f)) (K a c)
def Q1(P:Program)(a b:Value)(h:aa)(K:KT):Prop:=bL false .ptr a (.pointer none) λd=>az d (K (.slice none 0 0) h) (ah P kH [a] h λc e=>c9 eA 1 [(.bool false)] c c e λf g=>bx b λi=>bK (σ:=bw [5,15]) (λx hh j=>Q0 P i b a K x.1 x.2.1 hh (λa0 k hz=>j (a0,(k,())) hz)) (f,((I 0),())) g)
theorem adn(a b:Value)(H:Q1 Tryz.prog a b h K):aE Tryz.prog EM [a,b].toArray h K:=
 bT (bA:=(bD (Tryz.f224.body.getD .skip) 0 [(7,[5,15])]).1) (c:=Tryz.f224.body.getD .skip) Tryz.func224 (by kernel_rfl) (by kernel_rfl) (by kernel_rfl) (of_decide_eq_true (by kernel_rfl))
  (Eq.mpr (by kernel_rfl) H)
def Q2(P:Program)(a b:Value)(h:aa)(K:KT):Prop:=ak .and a (.int .u64 4294967295) λc=>ak .shr a (.int .u64 32) λd=>ak .and b (.int .u64 4294967295) λe=>ak .shr b (.int .u64 32) λf=>ak .mul c e λi=>ak .mul d e λj=>ak .shr i (.int .u64 32) λk=>ak .add j k λg=>ak .and g (.int .u64 4294967295) λl=>ak .shr g (.int .u64 32) λm=>ak .mul c f λn=>ak .add l n λo=>ak .mul d f λp=>ak .add p m λq=>ak .shr o (.int .u64 32) λr=>ak .add q r λs=>ak .mul a b λt=>K (.tuple #[s,t]) h
theorem ado(a b:Value)(H:Q2 Tryz.prog a b h K):aE Tryz.prog K0 [a,b].toArray h K:=
 aO Tryz.func226 (Eq.mpr (by kernel_rfl) H)
def Q4(P:Program)(b c d:Value)(h:aa)(K:KT):Prop:=aJ b λn=>aq 0 n λo=>af h o λp=>aW 2 p c λq=>aq 1 q λr=>af h r λs=>aJ b λt=>aq 0 t λu=>af h u λv=>aW 2 v d λw=>aq 1 w λx=>af h x λy=>aJ b λz=>aq 0 z λe=>af h e λf=>aW 2 f c λA=>aq 0 A λg=>af h g λi=>aJ b λB=>aq 0 B λj=>af h j λk=>aW 2 k d λC=>aq 0 C λl=>af h l λm=>ah P tO [s,y] h λD a=>(af a e λE=>E=f)/\(af a g λF=>F=i)/\(af a j λG=>G=k)/\(af a l λH=>H=m)/\(ah P wM [i,m] a λJ L=>cz au (bO [(I 0)] 2) [(0,1,D),(1,1,J)] 2 L λM N=>ah P wL [M] N λO Q=>ak .lss O (I 0) λR=>K R Q)
theorem adp(a b c:Value)(H:Q4 Tryz.prog a b c h K):aE Tryz.prog tP [a,b,c].toArray h K:=
 aO Tryz.func227 (Eq.mpr (by kernel_rfl) H)
def Q5(P:Program)(a b:Value)(h:aa)(K:KT):Prop:=aB nX a h λc d=>aB au b d λe f=>K (.func (.func Aq) #[] #[e,c]) f
theorem adq(a b:Value)(H:Q5 Tryz.prog a b h K):aE Tryz.prog K3 [a,b].toArray h K:=
 aO Tryz.func228 (Eq.mpr (by kernel_rfl) H)
def Gp(P:Program)(a:Value)(K:KT)(b:aa):Prop:=aZ 3 b a λd=>aC 3 a d b λu c=>aZ 3 c a λres=>K (.tuple #[res,(.bool false)]) c
def Q6(P:Program)(l0 c:Value)(h:aa)(K:KT):Prop:=aB cC (.agg #[(I 0),(I 0),(I 0)]) h λa b=>ak .lss c (I 0) λe=>az e (Gp P a K b) (bx l0 λf=>ak .geq c f λg=>az g (Gp P a K b) (aW 3 l0 c λi=>aZ 3 b i λj=>aC 3 a j b λl d=>aZ 3 d a λk=>K (.tuple #[k,(.bool true)]) d))
theorem adr(l0 a:Value)(H:Q6 Tryz.prog l0 a h K):aE Tryz.prog EN [l0,a].toArray h K:=
 aO Tryz.func229 (Eq.mpr (by kernel_rfl) H)
def Q7(P:Program)(a b:Value)(h:aa)(K:KT):Prop:=aS P a [(I 1),(.func (.func EP) #[] #[b])].toArray h λg d=>az g (aS P a [(I 16),(.func (.func ER) #[] #[b])].toArray d λi e=>az i (aS P a [(I 17),(.func (.func ES) #[] #[b])].toArray e λj f=>az j (aS P a [(I 18),(.func (.func ET) #[] #[b])].toArray f λk c=>az k (af c b λl=>aS P a [(I 19),(.func (.func EU) #[l] #[])].toArray c λn m=>K (.tuple #[]) m) (K (.tuple #[]) c)) (K (.tuple #[]) f)) (K (.tuple #[]) e)) (K (.tuple #[]) d)
theorem ads(a b:Value)(H:Q7 Tryz.prog a b h K):aE Tryz.prog EO [a,b].toArray h K:=
 aO Tryz.func230 (Eq.mpr (by kernel_rfl) H)
def Q8(P:Program)(a:Value)(h:aa)(K:KT):Prop:=af h a λb=>aJ b λc=>aq 2 c λd=>af h d λe=>bL true .ptr e (.pointer none) λf=>K f h
theorem adt(a:Value)(H:Q8 Tryz.prog a h K):aE Tryz.prog EP [a].toArray h K:=
 aO Tryz.func231 (Eq.mpr (by kernel_rfl) H)
def Q9(P:Program)(a:Value)(h:aa)(K:KT):Prop:=af h a λb=>aJ b λc=>aq 4 c λd=>aq 0 d λe=>af h e λf=>ak .eql f (I 4) λg=>az g (K (.bool true) h) (af h a λi=>aJ i λj=>aq 4 j λk=>aq 0 k λl=>af h l λm=>ak .eql m (I 5) λn=>K n h)
theorem adu(a:Value)(H:Q9 Tryz.prog a h K):aE Tryz.prog ER [a].toArray h K:=
 aO Tryz.func232 (Eq.mpr (by kernel_rfl) H)
def Ra(P:Program)(a:Value)(h:aa)(K:KT):Prop:=af h a λb=>af h a λc=>aJ c λd=>aq 4 d λe=>aq 1 e λf=>af h f λg=>ah P Af [b,g] h λi j=>K i j
theorem adv(a:Value)(H:Ra Tryz.prog a h K):aE Tryz.prog ES [a].toArray h K:=
 aO Tryz.func233 (Eq.mpr (by kernel_rfl) H)
def Rb(P:Program)(b a:Value)(h:aa)(K:KT):Prop:=ak .geq a (I 0) λc=>az c (aJ b λd=>aq 2 d λe=>af h e λf=>ah P ct [f] h λg i=>ak .lss a g λj=>K j i) (K (.bool false) h)
theorem adw(a b:Value)(H:Rb Tryz.prog a b h K):aE Tryz.prog Af [a,b].toArray h K:=
 aO Tryz.func234 (Eq.mpr (by kernel_rfl) H)
end Go.Proofs.YthglofkkjoiepaaGreatDoor
