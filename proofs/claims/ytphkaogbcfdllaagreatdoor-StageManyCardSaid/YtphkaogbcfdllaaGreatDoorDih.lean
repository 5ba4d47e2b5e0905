import Derived.Test.YtphkaogbcfdllaaGreatDoorDio
set_option linter.unusedVariables false
set_option linter.unusedSimpArgs false
set_option maxRecDepth 100000
/- As many packages as there are stand side by side, each below its name, in order. (The card, further.) -/
namespace Go.Proofs.YtphkaogbcfdllaaGreatDoor
open Go Go.Vc Go.ChangeShapes Go.WideShapes Go.ChangeAt Go.RowKit
theorem manyL_holds:Rows.StageManyCardSaid:=
 Claim7.holds_tied_plain_at .later [] [.data,.data,.data,.data,.handle,.pinned] true (true,"b0db81f4c089e766ffed758fef5457b918bf2ffe4561cedd0cf0b14c21819f6c") true KW.over (fun _ h=>by cases h) (by as_aux_lemma=>kernel_rfl) (fun _ h=>by cases h) stageMany_row_tie rfl ⟨rfl,rfl⟩ (by as_aux_lemma=>kernel_rfl) rfl
  (fun f fn hf CN=>by
   obtain rfl:f=12:=bW ((show Tryz.prog.funcNamed Tryz.f12.name=some 12 by kernel_rfl).symm.trans hf) |>.symm;obtain rfl:fn=Tryz.f12:=(bW (Tryz.func12.symm.trans CN)).symm;exact⟨by kernel_rfl,fun j t ht=>by
    rw[Tryz.params12]at ht;have hm:t∈ [5,5]:=by simpa using Array.mem_of_getElem? ht
    have ii:([5,5].all fun u=> !Tryz.prog.wantsStandIn u)=true:=by kernel_rfl
    exact(show Tryz.prog.wantsStandIn t=false by simpa using cB.1 ii t hm)⟩)
  (by as_aux_lemma=>kernel_rfl)
end Go.Proofs.YtphkaogbcfdllaaGreatDoor
