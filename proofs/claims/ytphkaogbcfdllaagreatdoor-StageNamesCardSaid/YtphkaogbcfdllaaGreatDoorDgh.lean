import Derived.Test.YtphkaogbcfdllaaGreatDoorDgo
set_option linter.unusedVariables false
set_option linter.unusedSimpArgs false
set_option maxRecDepth 100000
/- A script knows its package, by name and version, and it touches nothing but the files of its package. (The card, further.) -/
namespace Go.Proofs.YtphkaogbcfdllaaGreatDoor
open Go Go.Vc Go.ChangeShapes Go.WideShapes Go.ChangeAt Go.RowKit
theorem snamesL_holds:Rows.StageNamesCardSaid:=
 Claim7.holds_tied_plain_at .later [] [.data,.data,.data,.data,.handle,.pinned] true (true,"b0db81f4c089e766ffed758fef5457b918bf2ffe4561cedd0cf0b14c21819f6c") true Kp.over (fun _ h=>by cases h) (by as_aux_lemma=>kernel_rfl) (fun _ h=>by cases h) stageNames_row_tie rfl ⟨rfl,rfl⟩ (by as_aux_lemma=>kernel_rfl) rfl
  (fun f fn hf CN=>by
   obtain rfl:f=10:=bW ((show Tryz.prog.funcNamed Tryz.f10.name=some 10 by kernel_rfl).symm.trans hf) |>.symm;obtain rfl:fn=Tryz.f10:=(bW (Tryz.func10.symm.trans CN)).symm;exact⟨by kernel_rfl,fun j t ht=>by
    rw[Tryz.params10]at ht;have hm:t∈ [5,4,9]:=by simpa using Array.mem_of_getElem? ht
    have ii:([5,4,9].all fun u=> !Tryz.prog.wantsStandIn u)=true:=by kernel_rfl
    exact(show Tryz.prog.wantsStandIn t=false by simpa using cB.1 ii t hm)⟩)
  (by as_aux_lemma=>kernel_rfl)
end Go.Proofs.YtphkaogbcfdllaaGreatDoor
