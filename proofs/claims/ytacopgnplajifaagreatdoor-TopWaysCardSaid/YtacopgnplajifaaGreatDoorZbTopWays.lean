/- Lemmas on the way to the law of this seat, joined. They have no conditions of their own. -/
import Derived.Test.YtacopgnplajifaaGreatDoorZaTopWays
set_option linter.unusedVariables false
set_option linter.unusedSimpArgs false
set_option linter.unusedSectionVars false
set_option linter.defProp false
set_option maxRecDepth 100000

namespace Go.Proofs.YtacopgnplajifaaGreatDoor
open Go Go.Mh Go.Proofs.Tryz Go.ChangeShapes
def apV(os:Os)(started:os.Started)(H:Type)(enc:TypeId×Value->H):
  ReturnsInHanded {} Tryz.checked os 3 .any (λw args=>(Rows.topWaysSpec.pre enc prog f3 [] false w args/\laidMetH prog Rows.topWaysRow.laid w)/\sizedMet enc prog f3 (OpenSpec.ofChange Rows.topWaysSpec) false w args)
   (Rows.topWaysSpec.post enc prog f3 false true false false):=by
 refine acV (C:=Tryz.checked) (tb:=4) (X:=λw _=>laidMetH prog Rows.topWaysRow.laid w) (λ_ _ _ hh h=>h.of_heap hh) bn started bn func3
  (ChangeSpec.witness_shaped (enc:=enc) (C:=Tryz.checked) (os:=os) (X:=λw _=>laidMetH prog Rows.topWaysRow.laid w) false (World.doorLaid prog 16 os) #[.agg #[.slice none 0 0,.int .u8 0,.bool false,.slice none 0 0,.int .u8 0,.int .u8 0],.agg #[.int .u8 0,.int .u8 0],.int .i8 0] 8 rfl (apT os) bn bn bn
   (apU os))
  rfl bn bn ?_ apS (slices_full_of prog bn) (by decide+kernel) ?_
 .intro ds hl;rw[show f3.params.toList=[25,26,27] by kernel_rfl]at hl
  match ds,hl with
  | [a,b,c],_=>rfl
 .intro W base args ds ps hval hA;rw[show f3.params.toList=[25,26,27] by kernel_rfl]at hA;obtain⟨v0,v1,v2,d0,d1,d2,aa,p1,p2,rfl,rfl,rfl,h0,h1,h2⟩:=trodAll_three hA;obtain⟨cs0,rfl,hl0,d⟩:=YB (n:=6) bn bn (hval 0 25 v0 bn rfl) h0;obtain⟨v,x,y,z,A,B,rfl⟩:=anG hl0;have D:=gB.field (n:=1) d 0 (ft:=22) (off:=0) (cs':=[v]) bn bn rfl;have E:=gB.field (n:=1) d 1 (ft:=5) (off:=1) (cs':=[x]) bn bn rfl;have F:=gB.field (n:=1) d 2 (ft:=4) (off:=2) (cs':=[y]) bn bn rfl;have G:=gB.field (n:=1) d 3 (ft:=23) (off:=3) (cs':=[z]) bn bn rfl;have I:=gB.field (n:=1) d 4 (ft:=5) (off:=4) (cs':=[A]) bn bn rfl;have J:=gB.field (n:=1) d 5 (ft:=5) (off:=5) (cs':=[B]) bn bn rfl;obtain⟨af,ag,K,ah,ai⟩:=gB.view (enc:=rW) (n:=1) (ok:=λa=>0<=a/\a<=255) (λ_=>rfl) D (e:=5) bn bn az (Ga (k:=.u8) bn);obtain⟨p,L,f⟩:=gB.int (k:=.u8) E bn;replace f:(0:Int)<=p/\p<=255:=f;subst L;obtain⟨aj,M⟩:=gB.bool F bn;subst M;obtain⟨ak,an,N,O,aq⟩:=gB.view (enc:=(jL .u32)) (n:=1) (ok:=λa=>0<=a/\a<=4294967295) (λ_=>rfl) G (e:=253) bn bn az (Ga (k:=.u32) bn);obtain⟨q,P,g⟩:=gB.int (k:=.u8) I bn;replace g:(0:Int)<=q/\q<=255:=g;subst P;obtain⟨r,Q,i⟩:=gB.int (k:=.u8) J bn;replace i:(0:Int)<=r/\r<=255:=i;subst Q;obtain⟨au,rfl,R,s⟩:=YB (n:=2) bn bn (hval 1 26 v1 bn rfl) h1;obtain⟨S,T,rfl⟩:=anF R;have U:=gB.elem (m:=2) (e:=5) (n:=1) s 0 (cs':=[S]) bn az bn rfl;have V:=gB.elem (m:=2) (e:=5) (n:=1) s 1 (cs':=[T]) bn az bn rfl;obtain⟨t,Y,j⟩:=gB.int (k:=.u8) U bn;replace j:(0:Int)<=t/\t<=255:=j;subst Y;obtain⟨u,Z,l⟩:=gB.int (k:=.u8) V bn;replace l:(0:Int)<=u/\u<=255:=l;subst Z;obtain⟨z2,rfl,o,hi2⟩:=ab8 (k:=.i8) bn (hval 2 27 v2 bn rfl) h2;replace o:(-128:Int)<=z2:=o;replace hi2:z2<=(127:Int):=hi2;exact apR ⟨_,K⟩ ⟨_,N⟩ O f g i j l ⟨o,hi2⟩ λh' hx=>⟨rfl,hx⟩
def ap5:Rows.TopWaysSaid:=
 OpenClaim.holds_of_wide 3 f3 rfl rfl rfl rfl rfl rfl rfl ⟨rfl,rfl,rfl,rfl,rfl⟩ rfl rfl rfl rfl rfl bn func3 ap4
  iC (by unfold Func.isWrapper;first |(rw[aW (by decide+kernel)];kernel_rfl)|(rw[aQ (by decide+kernel)];exact⟨rfl,rfl⟩))
  (λos started H enc _=>apV os started H enc)
end Go.Proofs.YtacopgnplajifaaGreatDoor
