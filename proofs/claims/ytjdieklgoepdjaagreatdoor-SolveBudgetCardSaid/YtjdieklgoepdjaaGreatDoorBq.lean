import Derived.Test.YtjdieklgoepdjaaGreatDoorBo
set_option linter.unusedVariables false
set_option linter.unusedSimpArgs false
set_option maxRecDepth 100000
/- SolveBudget: whatever the budget is, what is told is right, or it is exhausted. -/
namespace Go.Proofs.YtjdieklgoepdjaaGreatDoor
open Go Go.Vc Go.Scr Go.Slv
theorem u32_nat {n:Int} (h:(Lit.int .u32 n).wf=true): ∃ m:Nat,n=m∧m<4294967296:=by
 have h2:0≤n∧n≤4294967295:=by
  simp[Lit.wf,IntKind.min,IntKind.max,IntKind.signed,IntKind.bits]at h
  omega
 exact⟨n.toNat,by omega,by omega⟩
set_option maxHeartbeats 4000000 in
theorem budget_any {H:Heap} (hg:Glb H) (L:List RowI) (la:Option Addr) (ln lc:Nat) (hL:RowE rinE H la L) (hLn:L.length=ln) (W:List Nat) (wa:Option Addr) (wn wc:Nat) (hW:Row H wa (intsV .u16 W)) (hWn:W.length=wn) (hW16: ∀ x∈W,x<65536) (B:Nat) (hB:B<4294967296):
  CallH Tryz.prog 12 [.slice la ln lc,.slice wa wn wc,.int .u32 B] H fun v H'=>v= .bool true∧Ext H H':=by
 refine Vc.CallH.body Tryz.func12 Tryz.call12 rfl (by decide+kernel) rfl ?_
 cases hlt:lightI L 12 with
 |false=>
  ((conv=>whnf);repeat(any_goals((first|((fail_if_success (have:=hx1));show Go.Vc.CallH _ _ _ _ _;refine(known15_any hg).mono ?_;rintro _ H1 ⟨rfl,hx1⟩;have hz1:=hx1.size)|((fail_if_success (have:=hlq));show Go.Vc.CallH _ _ _ _ _;refine(some_any L la ln lc H1 (hL.ext rin_ok hx1) hLn).mono ?_;have hlq:=hlt;rintro _ _ ⟨rfl,rfl⟩;rw[hlt])|refine Vc.stp ?_)<;>(intros;(conv=>whnf)))))
  exact⟨rfl,hx1⟩
 |true=>
 obtain⟨hl20,hl4⟩:=(lightI_iff L 12).1 hlt
 by_cases h6:wn≤4
 ·((conv=>whnf);repeat(any_goals((first|((fail_if_success (have:=hx1));show Go.Vc.CallH _ _ _ _ _;refine(known15_any hg).mono ?_;rintro _ H1 ⟨rfl,hx1⟩;have hz1:=hx1.size)|((fail_if_success (have:=hlq));show Go.Vc.CallH _ _ _ _ _;refine(some_any L la ln lc H1 (hL.ext rin_ok hx1) hLn).mono ?_;have hlq:=hlt;rintro _ _ ⟨rfl,rfl⟩;rw[hlt])|(show Go.Vc.CallH _ _ _ _ _;refine(reg_made (hg.ext hx1) hl4 (hL.ext rin_ok hx1) hLn (by omega)).mono ?_;rintro _ H2 ⟨⟨R,ra,rc,ga,gn,gc,st,rfl,hMok,hRl,hR,hRc⟩,hx2⟩;have hz2:=hx2.size)|(show Go.Vc.CallH _ _ _ _ _;refine(sneeds_any W hW16 wa wn wc H2 (hW.ext (hx1.trans hx2)) hWn (by omega)).mono ?_;rintro _ H3 ⟨⟨na,nc,rfl,hNo⟩,hx3⟩;have hz3:=hx3.size)|(refine ArithH.i64 (by omega) ?_)|refine Vc.stp ?_)<;>(intros;(conv=>whnf)))))
  have hnl:=needsM_len W
  have hnb:=needs_b (L:=W)
  have hO:RegO H3 R (needsM W) ra rc na nc:=⟨hg.ext (hx1.trans (hx2.trans hx3)),hMok,hRl,by omega,hnb,hR.ext row_ok hx3,hNo.rowL.to fun _ _=>needT_E,hNo.cap_le⟩
  obtain⟨N,hN⟩: ∃ N,needsM W=N:=⟨_,rfl⟩
  rw[hN]at hO ⊢
  have hx03:=hx1.trans (hx2.trans hx3)
  refine(hO.solve B).mono ?_
  rintro _ H4 ⟨hs4,hx4⟩
  have hz4:=hx4.size
  rcases hs4 with ⟨P,pa,pc,rfl,hpc,h1b,hsol,hP4⟩|⟨rfl,h1b,hsol⟩|⟨rfl,hex⟩
  ·have hfit:FitP R N P:=hsol.fit
   have hPl:=hO.few hfit.sorted hfit.row
   ((conv=>whnf);repeat(any_goals((first|(show Go.Vc.CallH _ _ _ _ _;refine(hO.ext hx4).rsolve.mono ?_;rintro _ H5 ⟨⟨o,ho,hso⟩,hx5⟩;have hz5:=hx5.size;obtain rfl:=solves_one hsol hso;obtain⟨qa,qn,qc,rfl,rfl,hqc,hQ⟩:=ho)|refine Vc.stp ?_)<;>(intros;(conv=>whnf)))))
   have hdd:decide (P=P)=true:=decide_eq_true rfl
   ((conv=>whnf);repeat(any_goals((first|((fail_if_success (have:=hx6));show Go.Vc.CallH _ _ _ _ _;refine((hO.ext (hx4.trans hx5)).pins hfit.row hfit.row (hP4.ext pin_ok hx5) hQ (by omega) (by omega)).mono ?_;rintro _ H6 ⟨rfl,hx6⟩;have hz6:=hx6.size;rw[hdd])|refine Vc.stp ?_)<;>(intros;(conv=>whnf)))))
   exact⟨rfl,hx03.trans (hx4.trans (hx5.trans hx6))⟩
  ·((conv=>whnf);repeat(any_goals((first|(show Go.Vc.CallH _ _ _ _ _;refine(hO.ext hx4).rsolve.mono ?_;rintro _ H5 ⟨⟨o,ho,hso⟩,hx5⟩;have hz5:=hx5.size;obtain rfl:=solves_one hsol hso;obtain rfl:=ho)|refine Vc.stp ?_)<;>(intros;(conv=>whnf)))))
   have hdd:decide (([]:List PinP)=[])=true:=rfl
   ((conv=>whnf);repeat(any_goals((first|((fail_if_success (have:=hx6));show Go.Vc.CallH _ _ _ _ _;refine((hO.ext (hx4.trans hx5)).pins (P:=[]) (Q:=[]) (fun p hp=>(by cases hp)) (fun p hp=>(by cases hp)) (RowE.nil _ _ _) (RowE.nil _ _ _) (by decide) (by decide)).mono ?_;rintro _ H6 ⟨rfl,hx6⟩;have hz6:=hx6.size;rw[hdd])|refine Vc.stp ?_)<;>(intros;(conv=>whnf)))))
   exact⟨rfl,hx03.trans (hx4.trans (hx5.trans hx6))⟩
  ·have hB20:B<1048576:=by
    have:=made_names hMok
    refine Nat.lt_of_not_le fun h=>hex (by omega) ⟨by omega,by omega,by omega⟩
   ((conv=>whnf);repeat(any_goals((first|refine Vc.stp ?_)<;>(intros;(conv=>whnf)))))
   exact⟨rfl,hx03.trans hx4⟩
 ·((conv=>whnf);repeat(any_goals((first|((fail_if_success (have:=hx1));show Go.Vc.CallH _ _ _ _ _;refine(known15_any hg).mono ?_;rintro _ H1 ⟨rfl,hx1⟩;have hz1:=hx1.size)|((fail_if_success (have:=hlq));show Go.Vc.CallH _ _ _ _ _;refine(some_any L la ln lc H1 (hL.ext rin_ok hx1) hLn).mono ?_;have hlq:=hlt;rintro _ _ ⟨rfl,rfl⟩;rw[hlt])|refine Vc.stp ?_|refine Vc.spl ?_ ?_)<;>(intros;(conv=>whnf)))))
  all_goals exact⟨rfl,hx1⟩
end Go.Proofs.YtjdieklgoepdjaaGreatDoor
