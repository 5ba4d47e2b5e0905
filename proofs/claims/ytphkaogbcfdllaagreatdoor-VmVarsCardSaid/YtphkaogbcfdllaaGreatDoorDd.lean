import Derived.Test.YtphkaogbcfdllaaGreatDoorZf
import Derived.Test.YtphkaogbcfdllaaGreatDoorKl
import Derived.Test.YtphkaogbcfdllaaGreatDoorKm
set_option linter.unusedVariables false
set_option linter.unusedSimpArgs false
set_option maxRecDepth 100000
/- Stands for names in words and texts, and what set makes of them. The package variables that the card lists hold what the program's text lays. -/
namespace Go.Proofs.YtphkaogbcfdllaaGreatDoor
open Go Go.Vc Go.Scr Go.Pth Go.Tre Go.ChangeShapes Go.WideShapes Go.ChangeAt Go.RowKit
theorem glb_two {H:Heap} (h:Glb H):2≤H.size:=by
 obtain⟨t,fr,e⟩:=h.tab
 have:=(Array.getElem?_eq_some_iff.1 e).1
 omega
theorem u8_nat {n:Int} (h:(Lit.int .u8 n).wf=true): ∃ m:Nat,n=m∧m<256:=by
 have h2:0≤n∧n≤255:=by
  simp[Lit.wf,IntKind.min,IntKind.max,IntKind.signed,IntKind.bits]at h
  omega
 exact⟨n.toNat,by omega,by omega⟩
theorem u16_nat {n:Int} (h:(Lit.int .u16 n).wf=true): ∃ m:Nat,n=m∧m<65536:=by
 have h2:0≤n∧n≤65535:=by
  simp[Lit.wf,IntKind.min,IntKind.max,IntKind.signed,IntKind.bits]at h
  omega
 exact⟨n.toNat,by omega,by omega⟩
namespace varsL
set_option maxRecDepth 100000 in
theorem lifted (os:Os) (started:os.Started) (H:Type) (enc:TypeId×Value→H):
  ReturnsInHanded {} Tryz.checked os 5 .any (fun w args=>(Rows.vmVarsSpec.pre enc Tryz.prog Tryz.f5 Rows.vmVarsRow.domain false w args∧laidMetH Tryz.prog Rows.vmVarsRow.laid w)∧sizedMet enc Tryz.prog Tryz.f5 (OpenSpec.ofChange Rows.vmVarsSpec) false w args)
   (Rows.vmVarsSpec.post enc Tryz.prog Tryz.f5 false true false false):=by
 refine returnsInHanded_of_change_and (C:=Tryz.checked) (X:=fun w _=>laidMetH Tryz.prog Rows.vmVarsRow.laid w) (fun _ _ _ hh h=>h.of_heap hh) own started (by kernel_rfl) Tryz.func5
  (ChangeSpec.witness_shaped (enc:=enc) (C:=Tryz.checked) (os:=os) (X:=fun w _=>laidMetH Tryz.prog Rows.vmVarsRow.laid w) false (witW os) #[.string ⟨#[]⟩,.string ⟨#[]⟩,.int .u8 0] 8 (witW_os os)
   (World.shaped_of_ZipB (by kernel_rfl) (by kernel_rfl)) (by kernel_rfl) (by kernel_rfl) (by kernel_rfl)
   (witW_met os _)) ?_
 intro W base args ds gs before hval0 hW hc _ hL _
 have hval: ∀ (j:Nat) t v,Tryz.f5.params[j]? =some t→args[j]? =some v→Value.okWide Tryz.prog W .any base t v:=hval0
 have hW':=hW
 obtain⟨p,q,hA,hV,_,_,_⟩:=hW
 rw[Tryz.params5]at hA hval
 obtain⟨v0,v1,v2,d0,d1,d2,p0,p1,p2,rfl,rfl,rfl,h0,h1,h2⟩:=trodAll_three hA
 obtain⟨s,rfl,rfl,rfl,w0⟩:=Go.ChangeMaps.open_string rfl (hval 0 _ v0 rfl rfl) h0
 obtain⟨t,rfl,rfl,rfl,w1⟩:=Go.ChangeMaps.open_string rfl (hval 1 _ v1 rfl rfl) h1
 obtain⟨x2,rfl,rfl,rfl,w2⟩:=open_int rfl (hval 2 _ v2 rfl rfl) h2
 obtain⟨x2,rfl,l2⟩:=u8_nat w2
 rw[←mkS_data s,←mkS_data t]
 exact law_calls (tb:=4) rfl (vars_any (glb_of_laid hL) (glb_two (glb_of_laid hL)) s.data.toList t.data.toList (by have e:s.data.toList.length=s.data.size:=Array.length_toList;have e2:s.data.size=s.size:=rfl;unfold maxLen at w0;omega) (by have e:t.data.toList.length=t.data.size:=Array.length_toList;have e2:t.data.size=t.size:=rfl;unfold maxLen at w1;omega) x2 l2) hW' rfl (by obtain⟨rfl,rfl⟩:=trodVars_none hV;rfl) rfl rfl laid_out (by kernel_rfl)
end varsL
end Go.Proofs.YtphkaogbcfdllaaGreatDoor
