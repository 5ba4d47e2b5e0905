import Derived.Test.YtphkaogbcfdllaaGreatDoorDjo
set_option linter.unusedVariables false
set_option linter.unusedSimpArgs false
set_option maxRecDepth 100000
/- What a package is built to hangs on its archive alone, not on other packages, nor on what was built before. (The card, further.) -/
namespace Go.Proofs.YtphkaogbcfdllaaGreatDoor
open Go Go.Vc Go.ChangeShapes Go.WideShapes Go.ChangeAt Go.RowKit
theorem aloneL_holds:Rows.StageAloneCardSaid:=
 Claim7.holds_tied_plain_at .later [] [.data,.data,.data,.data,.handle,.pinned] true (true,"b0db81f4c089e766ffed758fef5457b918bf2ffe4561cedd0cf0b14c21819f6c") true KC.over (fun _ h=>by cases h) (by as_aux_lemma=>kernel_rfl) (fun _ h=>by cases h) stageAlone_row_tie rfl ⟨rfl,rfl⟩ (by as_aux_lemma=>kernel_rfl) rfl
  (fun f fn hf CN=>by
   obtain rfl:f=9:=bW ((show Tryz.prog.funcNamed Tryz.f9.name=some 9 by kernel_rfl).symm.trans hf) |>.symm;obtain rfl:fn=Tryz.f9:=(bW (Tryz.func9.symm.trans CN)).symm;exact⟨by kernel_rfl,fun j t ht=>by
    rw[Tryz.params9]at ht;have hm:t∈ [74,74]:=by simpa using Array.mem_of_getElem? ht
    have ii:([74,74].all fun u=> !Tryz.prog.wantsStandIn u)=true:=by kernel_rfl
    exact(show Tryz.prog.wantsStandIn t=false by simpa using cB.1 ii t hm)⟩)
  (by as_aux_lemma=>kernel_rfl)
end Go.Proofs.YtphkaogbcfdllaaGreatDoor
