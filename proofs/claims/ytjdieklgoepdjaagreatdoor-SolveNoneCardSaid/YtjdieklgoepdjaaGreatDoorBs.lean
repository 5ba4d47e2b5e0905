import Derived.Test.YtjdieklgoepdjaaGreatDoorKq
import Derived.Test.YtjdieklgoepdjaaGreatDoorBo
set_option linter.unusedVariables false
set_option linter.unusedSimpArgs false
set_option maxRecDepth 100000
/- SolveNone: nothing that fits is better than what is told; where nothing is told nothing fits. -/
namespace Go.Proofs.YtjdieklgoepdjaaGreatDoor
open Go Go.Vc Go.Scr Go.Slv
set_option maxHeartbeats 4000000 in
theorem none_any {H:Heap} (hg:Glb H) (L:List RowI) (la:Option Addr) (ln lc:Nat) (hL:RowE rinE H la L) (hLn:L.length=ln) (W:List Nat) (wa:Option Addr) (wn wc:Nat) (hW:Row H wa (intsV .u16 W)) (hWn:W.length=wn) (hW16: ∀ x∈W,x<65536) (A:List Nat) (aa:Option Addr) (an ac:Nat) (hA:Row H aa (intsV .u8 A)) (hAn:A.length=an) (hA8: ∀ x∈A,x<256):
  CallH Tryz.prog 10 [.slice la ln lc,.slice wa wn wc,.slice aa an ac] H fun v H'=>v= .bool true∧Ext H H':=by
 refine Vc.CallH.body Tryz.func10 Tryz.call10 rfl (by decide+kernel) rfl ?_
 cases hlt:lightI L 16 with
 |false=>
  ((conv=>whnf);repeat(any_goals((first|((fail_if_success (have:=hx1));show Go.Vc.CallH _ _ _ _ _;refine(known15_any hg).mono ?_;rintro _ H1 ⟨rfl,hx1⟩;have hz1:=hx1.size)|((fail_if_success (have:=hlq));show Go.Vc.CallH _ _ _ _ _;refine(light_any L la ln lc 16 H1 (hL.ext rin_ok hx1) hLn (by decide)).mono ?_;have hlq:=hlt;rintro _ _ ⟨rfl,rfl⟩;rw[hlt])|refine Vc.stp ?_)<;>(intros;(conv=>whnf)))))
  exact⟨rfl,hx1⟩
 |true=>
 obtain⟨hl20,hl4⟩:=(lightI_iff L 16).1 hlt
 by_cases h6:wn≤4∧an≤6
 ·obtain⟨h6w,h6a⟩:=h6
  ((conv=>whnf);repeat(any_goals((first|((fail_if_success (have:=hx1));show Go.Vc.CallH _ _ _ _ _;refine(known15_any hg).mono ?_;rintro _ H1 ⟨rfl,hx1⟩;have hz1:=hx1.size)|((fail_if_success (have:=hlq));show Go.Vc.CallH _ _ _ _ _;refine(light_any L la ln lc 16 H1 (hL.ext rin_ok hx1) hLn (by decide)).mono ?_;have hlq:=hlt;rintro _ _ ⟨rfl,rfl⟩;rw[hlt])|(show Go.Vc.CallH _ _ _ _ _;refine(reg_made (hg.ext hx1) hl4 (hL.ext rin_ok hx1) hLn (by omega)).mono ?_;rintro _ H2 ⟨⟨R,ra,rc,ga,gn,gc,st,rfl,hMok,hRl,hR,hRc⟩,hx2⟩;have hz2:=hx2.size)|(show Go.Vc.CallH _ _ _ _ _;refine(sneeds_any W hW16 wa wn wc H2 (hW.ext (hx1.trans hx2)) hWn (by omega)).mono ?_;rintro _ H3 ⟨⟨na,nc,rfl,hNo⟩,hx3⟩;have hz3:=hx3.size)|refine Vc.stp ?_)<;>(intros;(conv=>whnf)))))
  have hnl:=needsM_len W
  have hnb:=needs_b (L:=W)
  have hO:RegO H3 R (needsM W) ra rc na nc:=⟨hg.ext (hx1.trans (hx2.trans hx3)),hMok,hRl,by omega,hnb,hR.ext row_ok hx3,hNo.rowL.to fun _ _=>needT_E,hNo.cap_le⟩
  obtain⟨N,hN⟩: ∃ N,needsM W=N:=⟨_,rfl⟩
  rw[hN]at hO ⊢
  have hx03:=hx1.trans (hx2.trans hx3)
  have hXs:=pick_sort R A A.length
  have hpk:=fun H5 (k:Ext H3 H5)=>picked_any R hMok.apart (made_bounds hMok) A hA8 ra aa R.length rc an ac H5 ((hO.ext k).row) rfl (by omega) (hA.ext (hx03.trans k)) hAn (by omega)
  obtain⟨X,hX⟩: ∃ X,pickF R A A.length=X:=⟨_,rfl⟩
  rw[hX]at hXs hpk
  have hXr: ∀ p∈X,∃ r∈R,pinR r=p:=fun p hp=>pick_all (by rw[hX];exact hp)
  have hXl:=hO.few hXs hXr
  refine(hO.solve 1048576).mono ?_
  rintro _ H4 ⟨hs4,hx4⟩
  have hz4:=hx4.size
  rcases solveR_big hMok (by omega) hs4 with ⟨P,pa,pc,rfl,hpc,hsol,hP4⟩|⟨rfl,hsol⟩
  ·have hfit:FitP R N P:=hsol.fit
   have hPl:=hO.few hfit.sorted hfit.row
   ((conv=>whnf);repeat(any_goals((first|(show Go.Vc.CallH _ _ _ _ _;refine(hpk H4 hx4).mono ?_;rintro _ H5 ⟨⟨xa,xc,rfl,hXe,hXc⟩,hx5⟩;have hz5:=hx5.size)|refine Vc.stp ?_)<;>(intros;(conv=>whnf)))))
   refine((hO.ext (hx4.trans hx5)).rfits hfit.sorted hfit.row (hP4.ext pin_ok hx5) (by omega)).mono ?_
   rintro _ H6 ⟨⟨b,rfl,hb⟩,hx6⟩
   have hz6:=hx6.size
   obtain rfl:b=true:=hb.2 hfit
   ((conv=>whnf);repeat(any_goals((first|refine Vc.stp ?_)<;>(intros;(conv=>whnf)))))
   refine((hO.ext (hx4.trans (hx5.trans hx6))).rfits hXs hXr (hXe.ext pin_ok hx6) (by omega)).mono ?_
   rintro _ H7 ⟨⟨c,rfl,hc⟩,hx7⟩
   have hz7:=hx7.size
   cases c with
   |false=>
    ((conv=>whnf);repeat(any_goals((first|refine Vc.stp ?_)<;>(intros;(conv=>whnf)))))
    exact⟨rfl,hx03.trans (hx4.trans (hx5.trans (hx6.trans hx7)))⟩
   |true=>
    have hbt:betterP X P=false:=by
     rcases hsol.best X (hc.1 rfl)with e|e
     ·rw[e];exact better_irrefl P
     ·exact better_asymm e
    ((conv=>whnf);repeat(any_goals((first|(show Go.Vc.CallH _ _ _ _ _;refine(rbetter_any X P (hO.pinv hXr) (hO.pinv hfit.row) xa pa _ _ xc pc H7 (hXe.ext pin_ok (hx6.trans hx7)) (hP4.ext pin_ok (hx5.trans (hx6.trans hx7))) rfl rfl (by omega) (by omega)).mono ?_;rintro _ H8 ⟨rfl,hx8⟩;rw[hbt])|refine Vc.stp ?_)<;>(intros;(conv=>whnf)))))
    exact⟨rfl,hx03.trans (hx4.trans (hx5.trans (hx6.trans (hx7.trans hx8))))⟩
  ·((conv=>whnf);repeat(any_goals((first|(show Go.Vc.CallH _ _ _ _ _;refine(hpk H4 hx4).mono ?_;rintro _ H5 ⟨⟨xa,xc,rfl,hXe,hXc⟩,hx5⟩;have hz5:=hx5.size)|refine Vc.stp ?_)<;>(intros;(conv=>whnf)))))
   refine((hO.ext (hx4.trans hx5)).rfits hXs hXr hXe (by omega)).mono ?_
   rintro _ H6 ⟨⟨b,rfl,hb⟩,hx6⟩
   obtain rfl:b=false:=by
    cases b with
    |false=>rfl
    |true=>exact absurd (hb.1 rfl) (hsol X)
   ((conv=>whnf);repeat(any_goals((first|refine Vc.stp ?_)<;>(intros;(conv=>whnf)))))
   exact⟨rfl,hx03.trans (hx4.trans (hx5.trans hx6))⟩
 ·((conv=>whnf);repeat(any_goals((first|((fail_if_success (have:=hx1));show Go.Vc.CallH _ _ _ _ _;refine(known15_any hg).mono ?_;rintro _ H1 ⟨rfl,hx1⟩;have hz1:=hx1.size)|((fail_if_success (have:=hlq));show Go.Vc.CallH _ _ _ _ _;refine(light_any L la ln lc 16 H1 (hL.ext rin_ok hx1) hLn (by decide)).mono ?_;have hlq:=hlt;rintro _ _ ⟨rfl,rfl⟩;rw[hlt])|refine Vc.stp ?_|refine Vc.spl ?_ ?_)<;>(intros;(conv=>whnf)))))
  all_goals exact⟨rfl,hx1⟩
end Go.Proofs.YtjdieklgoepdjaaGreatDoor
