import Derived.Test.YtphkaogbcfdllaaGreatDoorKn
import Derived.Test.YtphkaogbcfdllaaGreatDoorKk
import Derived.Test.YtphkaogbcfdllaaGreatDoorKm
import Derived.Test.YtphkaogbcfdllaaGreatDoorKl
set_option linter.unusedVariables false
set_option linter.unusedSimpArgs false
set_option maxRecDepth 100000
/- What a package is built to hangs on its archive alone, not on other packages, nor on what was built before. The package variables that the card lists hold what the program's text lays. -/
namespace Go.Proofs.YtphkaogbcfdllaaGreatDoor
open Go Go.Vc Go.cN Go.eg Go.cM Go.ChangeShapes Go.WideShapes Go.ChangeAt Go.RowKit
theorem F0 {H:ae} (h:kS H):2<=H.size:=by
 obtain⟨t,fr,e⟩:=h.tab;have:=(aP.1 e).1;omega
namespace KC
set_option maxRecDepth 100000 in
theorem lifted (os:Os) (started:os.Started) (H:Type) (enc:TypeId×Value->H):
  ReturnsInHanded {} Tryz.checked os 9 .any (fun w args=>(Rows.stageAloneSpec.pre enc Tryz.prog Tryz.f9 Rows.stageAloneRow.domain false w args/\laidMetH Tryz.prog Rows.stageAloneRow.laid w)/\sizedMet enc Tryz.prog Tryz.f9 (OpenSpec.ofChange Rows.stageAloneSpec) false w args)
   (Rows.stageAloneSpec.post enc Tryz.prog Tryz.f9 false true false false):=by
 refine returnsInHanded_of_change_and (C:=Tryz.checked) (X:=fun w _=>laidMetH Tryz.prog Rows.stageAloneRow.laid w) (fun _ _ _ hh h=>h.of_heap hh) own started (by kernel_rfl) Tryz.func9
  (ChangeSpec.witness_shaped (enc:=enc) (C:=Tryz.checked) (os:=os) (X:=fun w _=>laidMetH Tryz.prog Rows.stageAloneRow.laid w) false (Es os) #[.agg #[.int .u8 0,.int .u8 0,.slice none 0 0,.int .u8 0,.int .u8 0],.agg #[.int .u8 0,.int .u8 0,.slice none 0 0,.int .u8 0,.int .u8 0]] 8 (OP os)
   (World.shaped_of_ZipB (by kernel_rfl) (by kernel_rfl)) (by kernel_rfl) (by kernel_rfl) (by kernel_rfl)
   (Ol os _)) ?_
 intro W base args ds gs before Gs hW hc _ hL _;have hval: ∀ (j:Nat) t v,Tryz.f9.params[j]? =some t->args[j]? =some v->Value.okWide Tryz.prog W .any base t v:=Gs;have CY:=hW;obtain⟨p,q,hA,hV,_,_,_⟩:=hW;rw[Tryz.params9]at hA hval;obtain⟨v0,v1,d0,d1,p0,p1,rfl,rfl,rfl,h0,h1⟩:=trodAll_two hA;obtain⟨c0,rfl,z0⟩:=okWide_struct rfl (hval 0 _ v0 rfl rfl);obtain⟨c1,rfl,z1⟩:=okWide_struct rfl (hval 1 _ v1 rfl rfl);obtain⟨f0,g0⟩:=h0;obtain⟨f1,g1⟩:=h1;obtain⟨x0,l0⟩:=UG (by rw[dR];exact z0) g0;obtain⟨x1,l1⟩:=UG (by rw[dR];exact z1) g1;exact NJ (tb:=4) rfl (aeh (Da hL) (F0 (Da hL)) x0 x1 c0.toList c1.toList l0 l1) CY rfl (by obtain⟨rfl,rfl⟩:=trodVars_none hV;rfl) rfl rfl Oj (by kernel_rfl)
end KC
end Go.Proofs.YtphkaogbcfdllaaGreatDoor
