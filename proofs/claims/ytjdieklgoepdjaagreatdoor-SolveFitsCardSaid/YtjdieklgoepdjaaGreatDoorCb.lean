import Derived.Test.YtjdieklgoepdjaaGreatDoorBn
import Derived.Test.YtjdieklgoepdjaaGreatDoorKk
import Derived.Test.YtjdieklgoepdjaaGreatDoorKn
set_option linter.unusedVariables false
set_option linter.unusedSimpArgs false
set_option maxRecDepth 100000
/- Whichever pins fit, or do not, and which of two are better, is what the document says. The package variables that the card lists hold what the program's text lays. -/
namespace Go.Proofs.YtjdieklgoepdjaaGreatDoor
open Go Go.Vc Go.Scr Go.Slv Go.ChangeShapes Go.WideShapes Go.ChangeAt Go.RowKit
namespace fitsL
set_option maxRecDepth 100000 in
theorem lifted (os:Os) (started:os.Started) (H:Type) (enc:TypeId×Value→H):
  ReturnsInHanded {} Tryz.checked os 9 .any (fun w args=>(Rows.solveFitsSpec.pre enc Tryz.prog Tryz.f9 Rows.solveFitsRow.domain false w args∧laidMetH Tryz.prog Rows.solveFitsRow.laid w)∧sizedMet enc Tryz.prog Tryz.f9 (OpenSpec.ofChange Rows.solveFitsSpec) false w args)
   (Rows.solveFitsSpec.post enc Tryz.prog Tryz.f9 false true false false):=by
 refine returnsInHanded_of_change_and (C:=Tryz.checked) (X:=fun w _=>laidMetH Tryz.prog Rows.solveFitsRow.laid w) (fun _ _ _ hh h=>h.of_heap hh) own started (by kernel_rfl) Tryz.func9
  (ChangeSpec.witness_shaped (enc:=enc) (C:=Tryz.checked) (os:=os) (X:=fun w _=>laidMetH Tryz.prog Rows.solveFitsRow.laid w) false (witW os) #[.slice none 0 0,.slice none 0 0,.slice none 0 0,.slice none 0 0] 8 (witW_os os)
   (World.shaped_of_ZipB (by kernel_rfl) (by kernel_rfl)) (by kernel_rfl) (by kernel_rfl) (by kernel_rfl)
   (witW_met os _)) ?_
 intro W base args ds gs before hval0 hW hc _ hL _
 have hval: ∀ (j:Nat) t v,Tryz.f9.params[j]? =some t→args[j]? =some v→Value.okWide Tryz.prog W .any base t v:=hval0
 have hW':=hW
 obtain⟨p,q,hA,hV,_,_,_⟩:=hW
 rw[Tryz.params9]at hA hval
 obtain⟨v0,v1,v2,v3,d0,d1,d2,d3,p0,p1,p2,p3,rfl,rfl,rfl,h0,h1,h2,h3⟩:=trodAll_four hA
 obtain⟨f0,h0⟩:=h0
 obtain⟨a0,n0,c0,l0,hcs0,hn0,hc0,hm0,hr0⟩:=read_rins h0
 obtain rfl:=arg_slice rfl (hval 0 _ v0 rfl rfl) hcs0
 obtain⟨f1,h1⟩:=h1
 obtain⟨a1,n1,c1,l1,hcs1,hn1,hc1,hm1,hr1,hb1⟩:=read_u16s (t:=23) rfl h1
 obtain rfl:=arg_slice rfl (hval 1 _ v1 rfl rfl) hcs1
 obtain⟨f2,h2⟩:=h2
 obtain⟨a2,n2,c2,l2,hcs2,hn2,hc2,hm2,hr2,hb2⟩:=read_u8s (t:=68) rfl h2
 obtain rfl:=arg_slice rfl (hval 2 _ v2 rfl rfl) hcs2
 obtain⟨f3,h3⟩:=h3
 obtain⟨a3,n3,c3,l3,hcs3,hn3,hc3,hm3,hr3,hb3⟩:=read_u8s (t:=68) rfl h3
 obtain rfl:=arg_slice rfl (hval 3 _ v3 rfl rfl) hcs3
 exact law_calls (tb:=4) rfl (fitsL_any (glb_of_laid hL) l0 a0 n0 c0 hr0 hn0 l1 a1 n1 c1 hr1 hn1 hb1 l2 a2 n2 c2 hr2 hn2 hb2 l3 a3 n3 c3 hr3 hn3 hb3) hW' rfl (by obtain⟨rfl,rfl⟩:=trodVars_none hV;rfl) rfl rfl laid_out (by kernel_rfl)
end fitsL
end Go.Proofs.YtjdieklgoepdjaaGreatDoor
