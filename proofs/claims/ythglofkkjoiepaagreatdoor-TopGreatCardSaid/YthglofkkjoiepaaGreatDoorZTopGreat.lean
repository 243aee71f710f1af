/- The law 'TopGreat' of the document's layer holds for every input: the function returns true, and leaves its arguments as they were. The listed package-level variable is never read. -/
import Derived.Test.YthglofkkjoiepaaGreatDoorTe
import Derived.Test.YthglofkkjoiepaaGreatDoorMd
import Derived.Test.YthglofkkjoiepaaGreatDoorRows
import Derived.Test.YthglofkkjoiepaaGreatDoorTie
import Derived.Test.YthglofkkjoiepaaGreatDoorCards
import Derived.LaidMore
import Derived.LaidHandle
import Derived.LaidLaws
import Derived.SevenTiedAt
set_option linter.unusedVariables false
set_option linter.unusedSimpArgs false
set_option linter.unusedSectionVars false

namespace Go.Proofs.YthglofkkjoiepaaGreatDoor
open Go Go.Mh Go.ChangeShapes
set_option maxRecDepth 100000
theorem akl:Kids Tryz.prog (· <Tryz.prog.types.size):=kids_rows (by kernel_rfl) (by kernel_rfl)
theorem akm(os:Os):((World.doorLaid Tryz.prog 16 os).forCall (λ_ _=>0) ⟨#[],#[.agg #[.slice none 0 0,.int .u8 0,.bool false,.slice none 0 0,.int .u8 0,.int .u8 0],.agg #[.int .u8 0,.int .u8 0]],[]⟩).Shaped Tryz.prog:=World.shaped_of_RefB (by kernel_rfl) (by kernel_rfl)
theorem akn(os:Os):laidMetH Tryz.prog Rows.topGreatRow.laid ((World.doorLaid Tryz.prog 16 os).forCall (λ_ _=>0) ⟨#[],#[.agg #[.slice none 0 0,.int .u8 0,.bool false,.slice none 0 0,.int .u8 0,.int .u8 0],.agg #[.int .u8 0,.int .u8 0]],[]⟩).memory:=laidMetH_of_parts3 (fuel:=8) (laidMet_of_run' 8 (by kernel_rfl) (by kernel_rfl)) (by kernel_rfl) (by kernel_rfl)
theorem ako(os:Os)(started:os.Started)(H:Type)(enc:TypeId×Value->H):
  ReturnsInHanded {} Tryz.checked os 3 .any (λw args=>(Rows.topGreatSpec.pre enc Tryz.prog Tryz.f3 [] false w args/\laidMetH Tryz.prog Rows.topGreatRow.laid w)/\sizedMet enc Tryz.prog Tryz.f3 (OpenSpec.ofChange Rows.topGreatSpec) false w args)
   (Rows.topGreatSpec.post enc Tryz.prog Tryz.f3 false true false false):=by
 refine ZK (C:=Tryz.checked) (tb:=4) (X:=λw _=>laidMetH Tryz.prog Rows.topGreatRow.laid w) (λ_ _ _ hh h=>h.of_heap hh) (by kernel_rfl) started (by kernel_rfl) Tryz.func3
  (ChangeSpec.witness_shaped (enc:=enc) (C:=Tryz.checked) (os:=os) (X:=λw _=>laidMetH Tryz.prog Rows.topGreatRow.laid w) false (World.doorLaid Tryz.prog 16 os) #[.agg #[.slice none 0 0,.int .u8 0,.bool false,.slice none 0 0,.int .u8 0,.int .u8 0],.agg #[.int .u8 0,.int .u8 0]] 8 rfl (akm os) (by kernel_rfl) (by kernel_rfl) (by kernel_rfl)
   (akn os))
  rfl (by kernel_rfl) (by kernel_rfl) ?_ akl (slices_full_of Tryz.prog (by kernel_rfl)) (by decide+kernel) ?_
 ·intro ds hl;rw[show Tryz.f3.params.toList=[25,26] by kernel_rfl]at hl
  match ds,hl with
  | [a,b],_=>rfl
 ·intro W base args ds ps hval hA;rw[show Tryz.f3.params.toList=[25,26] by kernel_rfl]at hA;obtain⟨v0,v1,d0,d1,Y,p1,rfl,rfl,rfl,h0,h1⟩:=trodAll_two hA;obtain⟨cs0,rfl,hl0,c⟩:=Wo (n:=6) (by kernel_rfl) (by kernel_rfl) (hval 0 25 v0 (by kernel_rfl) rfl) h0;obtain⟨t,u,v,x,y,z,rfl⟩:=ai6 hl0;have A:=fB.field (n:=1) c 0 (ft:=22) (off:=0) (cs':=[t]) (by kernel_rfl) (by kernel_rfl) rfl;have B:=fB.field (n:=1) c 1 (ft:=5) (off:=1) (cs':=[u]) (by kernel_rfl) (by kernel_rfl) rfl;have D:=fB.field (n:=1) c 2 (ft:=4) (off:=2) (cs':=[v]) (by kernel_rfl) (by kernel_rfl) rfl;have E:=fB.field (n:=1) c 3 (ft:=23) (off:=3) (cs':=[x]) (by kernel_rfl) (by kernel_rfl) rfl;have F:=fB.field (n:=1) c 4 (ft:=5) (off:=4) (cs':=[y]) (by kernel_rfl) (by kernel_rfl) rfl;have G:=fB.field (n:=1) c 5 (ft:=5) (off:=5) (cs':=[z]) (by kernel_rfl) (by kernel_rfl) rfl;obtain⟨Z,aa,I,af,ag⟩:=fB.view (enc:=oM) (n:=1) (ok:=λa=>0<=a/\a<=255) (λ_=>rfl) A (e:=5) (by kernel_rfl) (by kernel_rfl) (by decide) (C2 (k:=.u8) (by kernel_rfl));obtain⟨l,J,d⟩:=fB.int (k:=.u8) B (by kernel_rfl);replace d:(0:Int)<=l/\l<=255:=d;subst J;obtain⟨ah,K⟩:=fB.bool D (by kernel_rfl);subst K;obtain⟨ai,aj,L,M,ak⟩:=fB.view (enc:=(Iz .u32)) (n:=1) (ok:=λa=>0<=a/\a<=4294967295) (λ_=>rfl) E (e:=324) (by kernel_rfl) (by kernel_rfl) (by decide) (C2 (k:=.u32) (by kernel_rfl));obtain⟨o,N,f⟩:=fB.int (k:=.u8) F (by kernel_rfl);replace f:(0:Int)<=o/\o<=255:=f;subst N;obtain⟨p,O,g⟩:=fB.int (k:=.u8) G (by kernel_rfl);replace g:(0:Int)<=p/\p<=255:=g;subst O;obtain⟨an,rfl,P,q⟩:=Wo (n:=2) (by kernel_rfl) (by kernel_rfl) (hval 1 26 v1 (by kernel_rfl) rfl) h1;obtain⟨Q,R,rfl⟩:=ai5 P;have S:=fB.elem (m:=2) (e:=5) (n:=1) q 0 (cs':=[Q]) (by kernel_rfl) (by decide) (by kernel_rfl) rfl;have T:=fB.elem (m:=2) (e:=5) (n:=1) q 1 (cs':=[R]) (by kernel_rfl) (by decide) (by kernel_rfl) rfl;obtain⟨r,U,i⟩:=fB.int (k:=.u8) S (by kernel_rfl);replace i:(0:Int)<=r/\r<=255:=i;subst U;obtain⟨s,V,j⟩:=fB.int (k:=.u8) T (by kernel_rfl);replace j:(0:Int)<=s/\s<=255:=j;subst V;exact akk ⟨_,I⟩ ⟨_,L⟩ M d f g i j λh' hx=>⟨rfl,hx⟩
theorem akp:laidOutB Tryz.prog=true:=by kernel_rfl
theorem akq:mapsRowed Tryz.prog=true:=by kernel_rfl
theorem akr:(Rows.topGreatRow.inPlace==Tryz.prog.inPlace 3)=true:=by kernel_rfl
theorem aks:(Rows.topGreatRow.unfollowed==Tryz.prog.unfollowed 3)=true:=by kernel_rfl
theorem akt:(Rows.topGreatRow.recurses==Tryz.prog.recurses 3)=true:=by kernel_rfl
theorem aku:(Rows.topGreatRow.named==Tryz.prog.varsNamed 3)=true:=by kernel_rfl
theorem akv:Tryz.prog.stopsHeard=true:=by kernel_rfl
theorem akw:Tryz.prog.mayEnter=true:=by kernel_rfl
theorem akx:joinedFacts Tryz.prog 3 Tryz.f3 Rows.topGreatSpec Rows.topGreatRow=true:=by
 unfold joinedFacts;rw[akp,akq,akr,aks,akt,aku,akv,akw]
 kernel_rfl
theorem aky:Rows.TopGreatSaid:=
 OpenClaim.holds_of_wide 3 Tryz.f3 rfl rfl rfl rfl rfl rfl rfl ⟨rfl,rfl,rfl,rfl,rfl⟩ rfl rfl rfl rfl rfl (by kernel_rfl) Tryz.func3 akx
  (of_decide_eq_true (by kernel_rfl)) (by unfold Func.isWrapper;first |(rw[if_pos (by decide+kernel)];kernel_rfl)|(rw[if_neg (by decide+kernel)];exact⟨rfl,rfl⟩))
  (λos started H enc _=>ako os started H enc)
theorem topGreat_holds:Rows.TopGreatCardSaid:=
 Claim7.holds_tied_plain_at .later [] [.handle] true (true,"815a856313221d672584195c36b5179b3007a16ed25e88e9b3430bd8d73402fd") true aky (λ_ h=>by cases h) (by kernel_rfl) (λ_ h=>by cases h) topGreat_row_tie rfl ⟨rfl,rfl⟩ (by kernel_rfl) rfl
  (λf fn hf hfn=>by
   obtain rfl:f=3:=Option.some.inj ((show Tryz.prog.funcNamed "milestone/milestonetop.TopGreat"=some 3 by kernel_rfl).symm.trans hf) |>.symm;obtain rfl:fn=Tryz.f3:=(Option.some.inj (Tryz.func3.symm.trans hfn)).symm;exact⟨by kernel_rfl,λj t ht=>by
    rw[show Tryz.f3.params= #[25,26] by kernel_rfl]at ht;have hm:t∈([25,26]:List Nat):=by simpa using Array.mem_of_getElem? ht
    have hall:(([25,26]:List Nat).all λu=> !Tryz.prog.wantsStandIn u)=true:=by kernel_rfl
    exact(show Tryz.prog.wantsStandIn t=false by simpa using List.all_eq_true.1 hall t hm)⟩)
  (by kernel_rfl)
end Go.Proofs.YthglofkkjoiepaaGreatDoor
