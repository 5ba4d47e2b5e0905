import Derived.Test.YtphkaogbcfdllaaGreatDoorKn
import Derived.Test.YtphkaogbcfdllaaGreatDoorKk
import Derived.Test.YtphkaogbcfdllaaGreatDoorKm
import Derived.Test.YtphkaogbcfdllaaGreatDoorKl
set_option linter.unusedVariables false
set_option linter.unusedSimpArgs false
set_option maxRecDepth 100000
/- As many packages as there are stand side by side, each below its name, in order. The package variables that the card lists hold what the program's text lays. -/
namespace Go.Proofs.YtphkaogbcfdllaaGreatDoor
open Go Go.Vc Go.cN Go.eg Go.cM Go.ChangeShapes Go.WideShapes Go.ChangeAt Go.RowKit
theorem F0 {H:ae} (h:kS H):2<=H.size:=by
 obtain⟨t,fr,e⟩:=h.tab;have:=(aP.1 e).1;omega
namespace KW
set_option maxRecDepth 100000 in
theorem lifted (os:Os) (started:os.Started) (H:Type) (enc:TypeId×Value->H):
  ReturnsInHanded {} Tryz.checked os 12 .any (fun w args=>(Rows.stageManySpec.pre enc Tryz.prog Tryz.f12 Rows.stageManyRow.domain false w args/\laidMetH Tryz.prog Rows.stageManyRow.laid w)/\sizedMet enc Tryz.prog Tryz.f12 (OpenSpec.ofChange Rows.stageManySpec) false w args)
   (Rows.stageManySpec.post enc Tryz.prog Tryz.f12 false true false false):=by
 refine returnsInHanded_of_change_and (C:=Tryz.checked) (X:=fun w _=>laidMetH Tryz.prog Rows.stageManyRow.laid w) (fun _ _ _ hh h=>h.of_heap hh) own started (by kernel_rfl) Tryz.func12
  (ChangeSpec.witness_shaped (enc:=enc) (C:=Tryz.checked) (os:=os) (X:=fun w _=>laidMetH Tryz.prog Rows.stageManyRow.laid w) false (Es os) #[.int .u8 0,.int .u8 0] 8 (OP os)
   (World.shaped_of_ZipB (by kernel_rfl) (by kernel_rfl)) (by kernel_rfl) (by kernel_rfl) (by kernel_rfl)
   (Ol os _)) ?_
 intro W base args ds gs before Gs hW hc _ hL _;have hval: ∀ (j:Nat) t v,Tryz.f12.params[j]? =some t->args[j]? =some v->Value.okWide Tryz.prog W .any base t v:=Gs;have CY:=hW;obtain⟨p,q,hA,hV,_,_,_⟩:=hW;rw[Tryz.params12]at hA hval;obtain⟨v0,v1,d0,d1,p0,p1,rfl,rfl,rfl,h0,h1⟩:=trodAll_two hA;obtain⟨x0,rfl,rfl,rfl,w0⟩:=open_int rfl (hval 0 _ v0 rfl rfl) h0;obtain⟨x0,rfl,l0⟩:=BO w0;obtain⟨x1,rfl,rfl,rfl,w1⟩:=open_int rfl (hval 1 _ v1 rfl rfl) h1;obtain⟨x1,rfl,l1⟩:=BO w1;exact NJ (tb:=4) rfl (acB (Da hL) (F0 (Da hL)) x0 x1 l0 l1) CY rfl (by obtain⟨rfl,rfl⟩:=trodVars_none hV;rfl) rfl rfl Oj (by kernel_rfl)
end KW
end Go.Proofs.YtphkaogbcfdllaaGreatDoor
