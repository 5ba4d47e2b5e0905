import Derived.Test.YtjdieklgoepdjaaGreatDoorUu
import Derived.Test.YtjdieklgoepdjaaGreatDoorKk
import Derived.Test.YtjdieklgoepdjaaGreatDoorKn
set_option linter.unusedVariables false
set_option linter.unusedSimpArgs false
set_option maxRecDepth 100000
/- A way is one: needs first, each behind its user, to the name; each pin has a user and a way. The package variables that the card lists hold what the program's text lays. -/
namespace Go.Proofs.YtjdieklgoepdjaaGreatDoor
open Go Go.Vc Go.Scr Go.Slv Go.ChangeShapes Go.WideShapes Go.ChangeAt Go.RowKit
namespace waysL
set_option maxRecDepth 100000 in
theorem lifted (os:Os) (started:os.Started) (H:Type) (enc:TypeId×Value→H):
  ReturnsInHanded {} Tryz.checked os 5 .any (fun w args=>(Rows.whyWaysSpec.pre enc Tryz.prog Tryz.f5 Rows.whyWaysRow.domain false w args∧laidMetH Tryz.prog Rows.whyWaysRow.laid w)∧sizedMet enc Tryz.prog Tryz.f5 (OpenSpec.ofChange Rows.whyWaysSpec) false w args)
   (Rows.whyWaysSpec.post enc Tryz.prog Tryz.f5 false true false false):=by
 refine returnsInHanded_of_change_and (C:=Tryz.checked) (X:=fun w _=>laidMetH Tryz.prog Rows.whyWaysRow.laid w) (fun _ _ _ hh h=>h.of_heap hh) own started (by kernel_rfl) Tryz.func5
  (ChangeSpec.witness_shaped (enc:=enc) (C:=Tryz.checked) (os:=os) (X:=fun w _=>laidMetH Tryz.prog Rows.whyWaysRow.laid w) false (witW os) #[.slice none 0 0,.slice none 0 0] 8 (witW_os os)
   (World.shaped_of_ZipB (by kernel_rfl) (by kernel_rfl)) (by kernel_rfl) (by kernel_rfl) (by kernel_rfl)
   (witW_met os _)) ?_
 intro W base args ds gs before hval0 hW hc _ hL _
 have hval: ∀ (j:Nat) t v,Tryz.f5.params[j]? =some t→args[j]? =some v→Value.okWide Tryz.prog W .any base t v:=hval0
 have hW':=hW
 obtain⟨p,q,hA,hV,_,_,_⟩:=hW
 rw[Tryz.params5]at hA hval
 obtain⟨v0,v1,d0,d1,p0,p1,rfl,rfl,rfl,h0,h1⟩:=trodAll_two hA
 obtain⟨f0,h0⟩:=h0
 obtain⟨a0,n0,c0,l0,hcs0,hn0,hc0,hm0,hr0⟩:=read_rins h0
 obtain rfl:=arg_slice rfl (hval 0 _ v0 rfl rfl) hcs0
 obtain⟨f1,h1⟩:=h1
 obtain⟨a1,n1,c1,l1,hcs1,hn1,hc1,hm1,hr1,hb1⟩:=read_u16s (t:=23) rfl h1
 obtain rfl:=arg_slice rfl (hval 1 _ v1 rfl rfl) hcs1
 exact law_calls (tb:=4) rfl (ways_any (glb_of_laid hL) l0 a0 n0 c0 hr0 hn0 l1 a1 n1 c1 hr1 hn1 hb1) hW' rfl (by obtain⟨rfl,rfl⟩:=trodVars_none hV;rfl) rfl rfl laid_out (by kernel_rfl)
end waysL
end Go.Proofs.YtjdieklgoepdjaaGreatDoor
