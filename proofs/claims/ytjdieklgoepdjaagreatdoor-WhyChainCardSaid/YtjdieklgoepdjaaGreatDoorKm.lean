import Derived.Test.YtjdieklgoepdjaaGreatDoorKe
import Derived.Test.YtjdieklgoepdjaaGreatDoorKp
import Derived.Test.YtjdieklgoepdjaaGreatDoorKd
import Derived.Test.YtjdieklgoepdjaaGreatDoorKk
import Derived.Test.YtjdieklgoepdjaaGreatDoorKl
import Derived.Test.YtjdieklgoepdjaaGreatDoorKj
import Derived.Test.YtjdieklgoepdjaaGreatDoorKi
set_option linter.unusedVariables false
set_option linter.unusedSimpArgs false
set_option maxRecDepth 100000
/- The help's Version and Pins: the same. -/
namespace Go.Proofs.YtjdieklgoepdjaaGreatDoor
open Go Go.Vc Go.Scr Go.Slv
end Go.Proofs.YtjdieklgoepdjaaGreatDoor
namespace Go.Slv
open Go.Scr Go.Tre
end Go.Slv
namespace Go.Proofs.YtjdieklgoepdjaaGreatDoor
open Go Go.Vc Go.Scr Go.Slv
theorem solve_small {R:List RowP} {N:List NeedP} (hMok:MadeOk R) (hRl:R.length≤19) (hNl:N.length≤1000) (hNs: ∀ n∈N,SpnB n.span) (ra:Option Addr) (rc:Nat) (na:Option Addr) (nc:Nat) (budget:Int) (H:Heap) (hg:Glb H) (hr:RowE rowE H ra R) (hn:RowE needE H na N):
  CallH Tryz.prog 35 [.slice ra R.length rc,.slice na N.length nc,.int .i64 budget] H fun v H'=>SolveR R N budget H' v∧Ext H H':=
 solve_any R N hMok.apart (made_bounds hMok) (by omega) hNl hNs (fun k=>by have:=ofName_len R k R.length;omega) ra rc na nc budget H hg hr hn
theorem solveR_big {R:List RowP} {N:List NeedP} {H:Heap} {v:Value} (hMok:MadeOk R) (hRl:R.length≤40) (h:SolveR R N 1048576 H v):(∃ P a cap,v= .tuple #[.slice a (List.length P) cap,.int .i64 0]∧P.length≤cap∧Solves R N (some P)∧RowE pinE H a P)∨(v= .tuple #[.slice none 0 0,.int .i64 70]∧Solves R N none):=by
 rcases h with ⟨P,a,cap,e,h1,_,h2,h3⟩|⟨e,_,h⟩|⟨e,h⟩
 ·exact .inl ⟨P,a,cap,e,h1,h2,h3⟩
 ·exact .inr ⟨e,h⟩
 ·have:=made_names hMok
  exact absurd ⟨hRl,by omega,by decide⟩ (h (by decide))
theorem needs_b {L:List Nat}: ∀ n∈needsM L,SpnB n.span:=fun n hn=>by
 obtain⟨j,rfl⟩:=needsM_mem hn
 exact needI_b j
theorem rin_built3 {x y:Int} {a:Option Addr} {n c:Nat}:Go.Program.built Tryz.prog 83 [(0,.int .u8 x),(1,.int .u8 y),(2,.slice a n c)]=some #[.int .u8 x,.int .u8 y,.slice a n c,.int .u8 0,.int .u8 0]:=by kernel_rfl
theorem rin_built2 {x y:Int}:Go.Program.built Tryz.prog 83 [(0,.int .u8 x),(1,.int .u8 y)]=some #[.int .u8 x,.int .u8 y,.slice none 0 0,.int .u8 0,.int .u8 0]:=by kernel_rfl
end Go.Proofs.YtjdieklgoepdjaaGreatDoor
