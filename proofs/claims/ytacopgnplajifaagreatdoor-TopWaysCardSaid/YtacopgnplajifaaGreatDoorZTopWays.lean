/- The law 'TopWays' of the document's layer holds for every input: the function returns true, and leaves its arguments as they were. The listed package-level variable is never read. -/
import Derived.Test.YtacopgnplajifaaGreatDoorZbTopWays
set_option linter.unusedVariables false
set_option linter.unusedSimpArgs false
set_option linter.unusedSectionVars false
set_option linter.defProp false
set_option maxRecDepth 100000

namespace Go.Proofs.YtacopgnplajifaaGreatDoor
open Go Go.Mh Go.Proofs.Tryz Go.ChangeShapes
def acp{P:Program}{c:OpenClaim}(h:P.funcs.toList.any Func.goes=false)(hs:c.start=.entering):false=c.goesBy P:=by
 have hg:∀g:Nat,(P.funcs[g]?).any Func.goes=false:=by
  intro g;cases e:P.funcs[g]? with
  |none=>rfl
  |some fn=>exact za.2 (List.any_eq_false.1 h fn (Array.mem_toList_iff.2 (EL e)))
 have hf:∀f,P.goes f=false:=by
  intro f;have h1:((P.closure f).any λg=>(P.funcs[g]?).any Func.goes)=false:=by rw[show(λg:Nat=>(P.funcs[g]?).any Func.goes)=λ_=>false from funext hg];simp
  have h2:P.funcs.any Func.goes=false:=by rw[<-Array.any_toList];exact h
  unfold Program.goes;rw[h1,h2,yU];rfl
 unfold OpenClaim.goesBy Program.goesAt Program.goesFrom;rw[hs];cases P.funcNamed c.func with
 |none=>rfl
 |some f=>show false=(P.goes f||false);rw[hf f];rfl
def alz:prog.funcs.toList.any Func.goes=false:=bn
def alA:prog.funcNamed "milestone/milestonetop.TopWays"=some 3:=bn
theorem topWays_holds:Rows.TopWaysCardSaid:=
 Claim7.holds_tied_plain_at .later [] [.handle] true (true,"f6b0159f8cccd19d919ae25a0249cf9bab780e67c8d4aa35bd85ae227b05cd35") true ap5 (λ_ h=>by cases h) bn (λ_ h=>by cases h) topWays_row_tie rfl ⟨rfl,rfl⟩ bn rfl
  (λf fn hf hfn=>by
   obtain rfl:f=3:=eV (alA.symm.trans hf) |>.symm;obtain rfl:fn=f3:=(eV (func3.symm.trans hfn)).symm;exact⟨bn,λj t ht=>by
    rw[show f3.params= #[25,26,27] by kernel_rfl]at ht;have hm:t∈([25,26,27]:List Nat):=by simpa using EL ht
    have hall:(([25,26,27]:List Nat).all λu=> !prog.wantsStandIn u)=true:=bn;exact(show prog.wantsStandIn t=false by simpa using List.all_eq_true.1 hall t hm)⟩)
  (acp alz rfl)
end Go.Proofs.YtacopgnplajifaaGreatDoor
