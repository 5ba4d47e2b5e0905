import Derived.Test.YtphkaogbcfdllaaGreatDoorKm
import Derived.Test.YtphkaogbcfdllaaGreatDoorKk
import Derived.Test.YtphkaogbcfdllaaGreatDoorKl
set_option linter.unusedVariables false
set_option linter.unusedSimpArgs false
set_option maxRecDepth 100000
/- A script knows its package, by name and version, and it touches nothing but the files of its package. The package variables that the card lists hold what the program's text lays. -/
namespace Go.Proofs.YtphkaogbcfdllaaGreatDoor
open Go Go.Vc Go.cN Go.eg Go.cM Go.ChangeShapes Go.WideShapes Go.ChangeAt Go.RowKit
theorem F0 {H:ae} (h:kS H):2<=H.size:=by
 obtain⟨t,fr,e⟩:=h.tab;have:=(aP.1 e).1;omega
namespace Kp
set_option maxRecDepth 100000 in
theorem lifted (os:Os) (started:os.Started) (H:Type) (enc:TypeId×Value->H):
  ReturnsInHanded {} Tryz.checked os 10 .any (fun w args=>(Rows.stageNamesSpec.pre enc Tryz.prog Tryz.f10 Rows.stageNamesRow.domain false w args/\laidMetH Tryz.prog Rows.stageNamesRow.laid w)/\sizedMet enc Tryz.prog Tryz.f10 (OpenSpec.ofChange Rows.stageNamesSpec) false w args)
   (Rows.stageNamesSpec.post enc Tryz.prog Tryz.f10 false true false false):=by
 refine returnsInHanded_of_change_and (C:=Tryz.checked) (X:=fun w _=>laidMetH Tryz.prog Rows.stageNamesRow.laid w) (fun _ _ _ hh h=>h.of_heap hh) own started (by kernel_rfl) Tryz.func10
  (ChangeSpec.witness_shaped (enc:=enc) (C:=Tryz.checked) (os:=os) (X:=fun w _=>laidMetH Tryz.prog Rows.stageNamesRow.laid w) false (Es os) #[.int .u8 0,.bool false,.string ⟨#[]⟩] 8 (OP os)
   (World.shaped_of_ZipB (by kernel_rfl) (by kernel_rfl)) (by kernel_rfl) (by kernel_rfl) (by kernel_rfl)
   (Ol os _)) ?_
 intro W base args ds gs before Gs hW hc _ hL _;have hval: ∀ (j:Nat) t v,Tryz.f10.params[j]? =some t->args[j]? =some v->Value.okWide Tryz.prog W .any base t v:=Gs;have CY:=hW;obtain⟨p,q,hA,hV,_,_,_⟩:=hW;rw[Tryz.params10]at hA hval;obtain⟨v0,v1,v2,d0,d1,d2,p0,p1,p2,rfl,rfl,rfl,h0,h1,h2⟩:=trodAll_three hA;obtain⟨x0,rfl,rfl,rfl,w0⟩:=open_int rfl (hval 0 _ v0 rfl rfl) h0;obtain⟨x0,rfl,l0⟩:=BO w0;obtain⟨pre,rfl,rfl,rfl⟩:=open_bool rfl (hval 1 _ v1 rfl rfl) h1;obtain⟨s,rfl,rfl,rfl,w2⟩:=Go.ChangeMaps.open_string rfl (hval 2 _ v2 rfl rfl) h2;rw[<-show ag s.data.toList=s by cases s;simp[ag]];exact NJ (tb:=4) rfl (aed (Da hL) (F0 (Da hL)) x0 l0 pre s.data.toList (by have e:s.data.toList.length=s.data.size:=dR;have e2:s.data.size=s.size:=rfl;unfold maxLen at w2;omega)) CY rfl (by obtain⟨rfl,rfl⟩:=trodVars_none hV;rfl) rfl rfl Oj (by kernel_rfl)
end Kp
end Go.Proofs.YtphkaogbcfdllaaGreatDoor
