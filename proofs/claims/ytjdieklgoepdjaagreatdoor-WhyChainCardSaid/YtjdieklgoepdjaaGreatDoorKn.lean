import Derived.Test.YtjdieklgoepdjaaGreatDoorKk
import Derived.ChangeMaps5
import Derived.Test.YtjdieklgoepdjaaGreatDoorKd
import Derived.Test.YtjdieklgoepdjaaGreatDoorTie
import Derived.Test.YtjdieklgoepdjaaGreatDoorCards
import Derived.ProofKit
import Derived.OpenShut
import Derived.LaidMore
import Derived.LaidHandle
import Derived.Lay
import Derived.Lib.LaidTab
import Derived.Stop.LaidErr
import Derived.SevenTiedAt
import Derived.Stop.Joined
set_option linter.unusedVariables false
set_option linter.unusedSimpArgs false
set_option maxRecDepth 100000
/- From a call's contract to a statement, more: arguments. -/
namespace Go.Vc
open Go.ChangeShapes Go.WideShapes Go.RowKit
section
variable {H:Type} {enc:TypeId×Value→H} {P:Program} {w:World} {base:Nat} {spare:Nat→Bool} {held:Bool}
end
end Go.Vc
namespace Go.Proofs.YtjdieklgoepdjaaGreatDoor
open Go Go.Vc Go.ChangeShapes Go.WideShapes Go.ChangeAt Go.RowKit
theorem laid_out:laidOutB Tryz.prog=true:=by kernel_rfl
theorem own:ownKnob Tryz.prog.godebug=none:=by kernel_rfl
abbrev laidF:List (String×DataW Unit):=Rows.whyPathsRow.laid
abbrev laidD:List (String×DataW Unit):=laidF.filter fun x=>x.2.handleName?.isNone
noncomputable def world0 (os:Os):World:=
 let w0:=World.holding Tryz.prog os ⟨#[],#[],[]⟩
 {w0 with heap:=w0.heap.modify 0 fun
   | .cells _ t frozen=> .cells #[.iface 245 (.agg #[.pointer (some ⟨5,118,none⟩)])] t frozen
   |o=>o}
noncomputable def witW (os:Os):World:=(world0 os).layVars Tryz.prog laidD
theorem witW_os (os:Os):(witW os).os=os:=World.layVars_os _ _ _
theorem witW_met (os:Os) (args:Array Value):laidMetH Tryz.prog laidF ((witW os).forCall (fun _ _=>0) ⟨#[],args,[]⟩).memory:=by
 refine laidMetH_of_parts ?_ (by kernel_rfl)
 have e1:(laidD.filter fun x=>(laidD.map (·.1)).contains x.1)=laidD:=List.filter_eq_self.2 fun x hx=>List.contains_iff_mem.2 (List.mem_map.2 ⟨x,hx,rfl⟩)
 have e2:(laidD.filter fun x=> !(laidD.map (·.1)).contains x.1)=[]:=List.filter_eq_nil_iff.2 fun x hx=>by rw[List.contains_iff_mem.2 (List.mem_map.2 ⟨x,hx,rfl⟩)];simp
 have h:laidMet Tryz.prog laidD (witW os):=laidMet_layVars (w0:=world0 os) (laidD.map (·.1)) [] (by rw[e1];rfl) (by rw[e1];kernel_rfl) (by rw[e1];kernel_rfl) (by rw[e2];exact LaidIn.none)
 exact h.of_heap (by simp[World.memory,World.forCall,Input.heap])
theorem one_row:((List.range Tryz.prog.types.size).filter fun t=>Tryz.prog.rowNamed t [101,114,114,111,114])=[118]:=by kernel_rfl
theorem glb_of_laid {W:World} (h:laidMetH Tryz.prog laidF W):Glb W.heap:=by
 have h':laidMet Tryz.prog laidD W∧handlesMet Tryz.prog (laidF.filter fun x=>x.2.handleName?.isSome) W:=h
 refine⟨?_⟩
 ·obtain⟨name,u,ty,e1,e2,e3,e4,e5⟩:=h'.2 _ (List.mem_singleton.2 rfl)
  have en:name=[101,114,114,111,114]:=(Option.some.inj e1).symm
  subst en
  have hu:some u=some 245:=e2.symm.trans (by kernel_rfl)
  obtain rfl:=Option.some.inj hu
  have hm:ty∈(List.range Tryz.prog.types.size).filter fun t=>Tryz.prog.rowNamed t [101,114,114,111,114]:=List.mem_filter.2 ⟨List.mem_range.2 e3,e4⟩
  rw[one_row]at hm
  obtain rfl:=List.mem_singleton.1 hm
  have hh:typeHandle Tryz.prog 118= .pointer (some ⟨5,118,none⟩):=by kernel_rfl
  rw[hh]at e5
  have hc:W.cell? ⟨0,0,none⟩=some (.iface 245 (.agg #[.pointer (some ⟨5,118,none⟩)])):=by simpa using World.var?_cell (show Tryz.prog.globalNamed _=some 0 by kernel_rfl) e5 0
  rw[cell_heap]at hc
  exact hc
end Go.Proofs.YtjdieklgoepdjaaGreatDoor
