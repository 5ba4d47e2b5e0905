import Derived.Test.YtjdieklgoepdjaaGreatDoorKu
import Derived.Test.YtjdieklgoepdjaaGreatDoorKk
set_option linter.unusedVariables false
set_option linter.unusedSimpArgs false
set_option maxRecDepth 100000
/- WhyPaths, walked. -/
namespace Go.Proofs.YtjdieklgoepdjaaGreatDoor
open Go Go.Vc Go.Scr Go.Slv
open Go.Why (SortN FailsR coreF pathF usersF)
set_option maxHeartbeats 8000000 in
theorem paths_any {H:Heap} (hg:Glb H) (L:List RowI) (la:Option Addr) (ln lc:Nat) (hL:RowE rinE H la L) (hLn:L.length=ln) (W:List Nat) (wa:Option Addr) (wn wc:Nat) (hW:Row H wa (intsV .u16 W)) (hWn:W.length=wn) (hW16: ∀ x∈W,x<65536) (name:Bs):
  CallH Tryz.prog 3 [.slice la ln lc,.slice wa wn wc,.string (mkS name)] H fun v H'=>v= .bool true∧Ext H H':=by
 have hsz:(mkS name).size=name.length:=szM2 name
 refine Vc.CallH.body Tryz.func3 Tryz.call3 rfl (by decide+kernel) rfl ?_
 cases hlt:lightI L 12 with
 |false=>
  ((conv=>whnf);repeat(any_goals((first|((fail_if_success (have:=hx1));show Go.Vc.CallH _ _ _ _ _;refine(known16_any hg).mono ?_;rintro _ H1 ⟨rfl,hx1⟩;have hz1:=hx1.size)|((fail_if_success (have:=hlq));show Go.Vc.CallH _ _ _ _ _;refine(light_any L la ln lc 12 H1 (hL.ext rin_ok hx1) hLn (by decide)).mono ?_;have hlq:=hlt;rintro _ _ ⟨rfl,rfl⟩;rw[hlt])|refine Vc.stp ?_)<;>(intros;(conv=>whnf)))))
  exact⟨rfl,hx1⟩
 |true=>
 obtain⟨hl20,hl4⟩:=(lightI_iff L 12).1 hlt
 by_cases h6:wn≤4∧name.length≤40
 ·obtain⟨h6,h40⟩:=h6
  ((conv=>whnf);repeat(any_goals((first|((fail_if_success (have:=hx1));show Go.Vc.CallH _ _ _ _ _;refine(known16_any hg).mono ?_;rintro _ H1 ⟨rfl,hx1⟩;have hz1:=hx1.size)|((fail_if_success (have:=hlq));show Go.Vc.CallH _ _ _ _ _;refine(light_any L la ln lc 12 H1 (hL.ext rin_ok hx1) hLn (by decide)).mono ?_;have hlq:=hlt;rintro _ _ ⟨rfl,rfl⟩;rw[hlt])|((fail_if_success (have:=hx2));show Go.Vc.CallH _ _ _ _ _;refine(reg_made (hg.ext hx1) hl4 (hL.ext rin_ok hx1) hLn (by omega)).mono ?_;rintro _ H2 ⟨⟨R,ra,rc,ga,gn,gc,st,rfl,hMok,hRln,hR,hRc⟩,hx2⟩;have hz2:=hx2.size)|((fail_if_success (have:=hx3));show Go.Vc.CallH _ _ _ _ _;refine(sneeds_any W hW16 wa wn wc H2 (hW.ext (hx1.trans hx2)) hWn (by omega)).mono ?_;rintro _ H3 ⟨⟨na,nc,rfl,hNo⟩,hx3⟩;have hz3:=hx3.size)|refine Vc.stp ?_)<;>(intros;(conv=>whnf)))))
  have hnl:=needsM_len W
  have hnb:=needs_b (L:=W)
  obtain⟨N,hN⟩: ∃ N,needsM W=N:=⟨_,rfl⟩
  rw[hN]at hNo hnl hnb ⊢
  have hO:RegO H3 R N ra rc na nc:=⟨hg.ext (hx1.trans (hx2.trans hx3)),hMok,hRln,by omega,hnb,hR.ext row_ok hx3,hNo.rowL.to fun _ _=>needT_E,hNo.cap_le⟩
  have hx03:=And.intro trivial (hx1.trans (hx2.trans hx3))
  clear hx1 hx2 hx3 hR hNo
  refine hO.rsolve.mono ?_
  rintro _ H4 ⟨⟨o,hso,hsol⟩,hx4⟩
  have hz4:=hx4.size
  have hx04:=And.intro trivial (hx03.2.trans hx4)
  cases o with
  |none=>
   obtain rfl:=hso
   ((conv=>whnf);repeat(any_goals((first|refine Vc.stp ?_)<;>(intros;(conv=>whnf)))))
   exact⟨rfl,hx04.2⟩
  |some P=>
  obtain⟨pa,pn,pc,rfl,hpl,hpc,hPE⟩:=hso
  subst hpl
  have hO4:=hO.ext hx4
  have hfit:=hsol.fit
  have hpB:=hO4.pinB hfit
  have hfew:=hO4.few hfit.sorted hfit.row
  clear hO hx4
  have hp:=fun k H' (x:Ext H4 H')=>(hO4.ext x).path (pc:=pc) hpB hfew (hPE.ext pin_ok x) k
  have hq:=fun k H' (x:Ext H4 H')=>(hO4.ext x).rpath (pc:=pc) hfit hfew (hPE.ext pin_ok x) k
  have hu:=fun k H' (x:Ext H4 H')=>(hO4.ext x).users (pc:=pc) hfit.sorted hpB hfew (hPE.ext pin_ok x) k
  have hv:=fun k H' (x:Ext H4 H')=>(hO4.ext x).rusers (pc:=pc) hfit hfew (hPE.ext pin_ok x) k
  ((conv=>whnf);repeat(any_goals((first|refine Vc.stp ?_)<;>(intros;(conv=>whnf)))))
  refine LoopH.intro (fun(i:Nat)=>[(13,.int .i64 i)]) (fun i H'=>i≤6∧And True (Ext H4 H')) (fun i=>6-i) 0 ⟨rfl,trivial⟩ ⟨Nat.zero_le _,trivial,Ext.refl _⟩ ?_
  rintro i H5 ⟨hi,hx5⟩
  have hz5:=hx5.2.size
  by_cases hlt2:i<6
  ·obtain⟨A,hA⟩: ∃ A,pathF R N P (nmN i)=A:=⟨_,rfl⟩
   obtain⟨U,hU⟩: ∃ U,usersF R N P (nmN i)=U:=⟨_,rfl⟩
   have hp1:=hp (nmN i)
   have hq1:=hq (nmN i)
   have hu1:=hu (nmN i)
   have hv1:=hv (nmN i)
   rw[hA]at hp1 hq1
   rw[hU]at hu1 hv1
   have hAl:=hO4.path_len (P:=P) (nmN i)
   have hUl:=Go.Why.users_bound R N P (nmN i)
   rw[hA]at hAl
   rw[hU]at hUl
   have eA:decide (A=A)=true:=decide_eq_true rfl
   have eU:decide (U=U)=true:=decide_eq_true rfl
   ((conv=>whnf);repeat(any_goals((first|(show Go.Vc.CallH _ _ _ _ _;refine(sname_any i (by omega) _).mono ?_;rintro _ _ ⟨rfl,rfl⟩)|((fail_if_success (have:=hxa));show Go.Vc.CallH _ _ _ _ _;refine(hp1 _ (hx5.2.trans (by exact Vc.xt))).mono ?_;rintro _ Ha ⟨⟨aa,ca,rfl,hca,hra⟩,hxa⟩;have hza:=hxa.size)|((fail_if_success (have:=hxb));show Go.Vc.CallH _ _ _ _ _;refine(hq1 _ (hx5.2.trans (by exact Vc.xt))).mono ?_;rintro _ Hb ⟨⟨ab,cb,rfl,hcb,hrb⟩,hxb⟩;have hzb:=hxb.size;have hsA:=strings_any A A aa ab _ _ ca cb Hb (hra.ext hxb) hrb rfl rfl (by omega) (by omega))|((fail_if_success (have:=hsAd));show Go.Vc.CallH _ _ _ _ _;refine hsA.mono ?_;rintro _ _ ⟨rfl,rfl⟩;have hsAd:=eA;rw[eA])|((fail_if_success (have:=hxc));show Go.Vc.CallH _ _ _ _ _;refine(hu1 _ (hx5.2.trans (hxa.trans (hxb.trans (by exact Vc.xt))))).mono ?_;rintro _ Hc ⟨⟨ac,cc,rfl,hrc,hcc⟩,hxc⟩;have hzc:=hxc.size)|((fail_if_success (have:=hxd));show Go.Vc.CallH _ _ _ _ _;refine(hv1 _ (hx5.2.trans (hxa.trans (hxb.trans (hxc.trans (by exact Vc.xt)))))).mono ?_;rintro _ Hd ⟨⟨ad,cd,rfl,hrd⟩,hxd⟩;have hzd:=hxd.size;have hsU:=strings_any U U ac ad _ _ cc cd Hd (hrc.ext hxd) hrd.row rfl rfl (by omega) (by omega))|(show Go.Vc.CallH _ _ _ _ _;refine hsU.mono ?_;rintro _ _ ⟨rfl,rfl⟩;rw[eU])|refine Vc.stp ?_)<;>(intros;(conv=>whnf)))))
   exact⟨i+1,⟨rfl,trivial⟩,⟨by omega,trivial,hx5.2.trans (hxa.trans (hxb.trans (hxc.trans hxd)))⟩,by omega⟩
  ·obtain rfl:i=6:=by omega
   obtain⟨A,hA⟩: ∃ A,pathF R N P name=A:=⟨_,rfl⟩
   have hp1:=hp name
   have hq1:=hq name
   rw[hA]at hp1 hq1
   have hAl:=hO4.path_len (P:=P) name
   rw[hA]at hAl
   have eA:decide (A=A)=true:=decide_eq_true rfl
   ((conv=>whnf);repeat(any_goals((first|((fail_if_success (have:=hxa));show Go.Vc.CallH _ _ _ _ _;refine(hp1 _ (hx5.2.trans (by exact Vc.xt))).mono ?_;rintro _ Ha ⟨⟨aa,ca,rfl,hca,hra⟩,hxa⟩;have hza:=hxa.size)|((fail_if_success (have:=hxb));show Go.Vc.CallH _ _ _ _ _;refine(hq1 _ (hx5.2.trans (by exact Vc.xt))).mono ?_;rintro _ Hb ⟨⟨ab,cb,rfl,hcb,hrb⟩,hxb⟩;have hzb:=hxb.size;have hsA:=strings_any A A aa ab _ _ ca cb Hb (hra.ext hxb) hrb rfl rfl (by omega) (by omega))|(show Go.Vc.CallH _ _ _ _ _;refine hsA.mono ?_;rintro _ _ ⟨rfl,rfl⟩;rw[eA])|refine Vc.stp ?_)<;>(intros;(conv=>whnf)))))
   exact⟨rfl,hx04.2.trans (hx5.2.trans (hxa.trans hxb))⟩
 ·((conv=>whnf);repeat(any_goals((first|((fail_if_success (have:=hx1));show Go.Vc.CallH _ _ _ _ _;refine(known16_any hg).mono ?_;rintro _ H1 ⟨rfl,hx1⟩;have hz1:=hx1.size)|((fail_if_success (have:=hlq));show Go.Vc.CallH _ _ _ _ _;refine(light_any L la ln lc 12 H1 (hL.ext rin_ok hx1) hLn (by decide)).mono ?_;have hlq:=hlt;rintro _ _ ⟨rfl,rfl⟩;rw[hlt])|refine Vc.stp ?_|refine Vc.spl ?_ ?_)<;>(intros;(conv=>whnf)))))
  all_goals exact⟨rfl,hx1⟩
end Go.Proofs.YtjdieklgoepdjaaGreatDoor
