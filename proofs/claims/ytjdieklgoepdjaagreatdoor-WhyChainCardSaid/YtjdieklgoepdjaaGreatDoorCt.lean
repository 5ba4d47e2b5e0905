import Derived.Test.YtjdieklgoepdjaaGreatDoorUy
import Derived.Test.YtjdieklgoepdjaaGreatDoorKk
import Derived.Test.YtjdieklgoepdjaaGreatDoorKn
set_option linter.unusedVariables false
set_option linter.unusedSimpArgs false
set_option maxRecDepth 100000
/- Along a chain the way to its end is the chain; a shorter one goes ahead; of two as short the first in order is told. The package variables that the card lists hold what the program's text lays. -/
namespace Go.Proofs.YtjdieklgoepdjaaGreatDoor
open Go Go.Vc Go.Scr Go.Slv Go.ChangeShapes Go.WideShapes Go.ChangeAt Go.RowKit
namespace wchainL
set_option maxRecDepth 100000 in
theorem lifted (os:Os) (started:os.Started) (H:Type) (enc:TypeId×Value→H):
  ReturnsInHanded {} Tryz.checked os 7 .any (fun w args=>(Rows.whyChainSpec.pre enc Tryz.prog Tryz.f7 Rows.whyChainRow.domain false w args∧laidMetH Tryz.prog Rows.whyChainRow.laid w)∧sizedMet enc Tryz.prog Tryz.f7 (OpenSpec.ofChange Rows.whyChainSpec) false w args)
   (Rows.whyChainSpec.post enc Tryz.prog Tryz.f7 false true false false):=by
 refine returnsInHanded_of_change_and (C:=Tryz.checked) (X:=fun w _=>laidMetH Tryz.prog Rows.whyChainRow.laid w) (fun _ _ _ hh h=>h.of_heap hh) own started (by kernel_rfl) Tryz.func7
  (ChangeSpec.witness_shaped (enc:=enc) (C:=Tryz.checked) (os:=os) (X:=fun w _=>laidMetH Tryz.prog Rows.whyChainRow.laid w) false (witW os) #[.int .u8 0,.int .u8 0] 8 (witW_os os)
   (World.shaped_of_ZipB (by kernel_rfl) (by kernel_rfl)) (by kernel_rfl) (by kernel_rfl) (by kernel_rfl)
   (witW_met os _)) ?_
 intro W base args ds gs before hval0 hW hc _ hL _
 have hval: ∀ (j:Nat) t v,Tryz.f7.params[j]? =some t→args[j]? =some v→Value.okWide Tryz.prog W .any base t v:=hval0
 have hW':=hW
 obtain⟨p,q,hA,hV,_,_,_⟩:=hW
 rw[Tryz.params7]at hA hval
 obtain⟨v0,v1,d0,d1,p0,p1,rfl,rfl,rfl,h0,h1⟩:=trodAll_two hA
 obtain⟨x0,rfl,rfl,rfl,w0⟩:=open_int rfl (hval 0 _ v0 rfl rfl) h0
 obtain⟨x0,rfl,q0⟩:=u8_nat w0
 obtain⟨x1,rfl,rfl,rfl,w1⟩:=open_int rfl (hval 1 _ v1 rfl rfl) h1
 obtain⟨x1,rfl,q1⟩:=u8_nat w1
 exact law_calls (tb:=4) rfl (wchain_any (glb_of_laid hL) x0 q0 x1 q1) hW' rfl (by obtain⟨rfl,rfl⟩:=trodVars_none hV;rfl) rfl rfl laid_out (by kernel_rfl)
end wchainL
end Go.Proofs.YtjdieklgoepdjaaGreatDoor
