import Derived.Test.YtjdieklgoepdjaaGreatDoorKu
import Derived.Test.YtjdieklgoepdjaaGreatDoorKd
set_option linter.unusedVariables false
set_option linter.unusedSimpArgs false
set_option maxRecDepth 100000
/- WhyTurned, walked. -/
namespace Go.Proofs.YtjdieklgoepdjaaGreatDoor
open Go Go.Vc Go.Scr Go.Slv
open Go.Why (SortN FailsR coreF pathF usersF)
structure WurS where
 i:Nat
 a:Option Addr
 cap:Nat
theorem made_rot {R:List RowP} (h:MadeOk R) (t:Nat):MadeOk (rotR R t):=⟨apart_perm (rot_perm R t).symm h.apart,fun r hr=>h.row r ((rot_perm R t).mem_iff.1 hr)⟩
set_option maxHeartbeats 8000000 in
theorem wturned_any {H:Heap} (hg:Glb H) (L:List RowI) (la:Option Addr) (ln lc:Nat) (hL:RowE rinE H la L) (hLn:L.length=ln) (W:List Nat) (wa:Option Addr) (wn wc:Nat) (hW:Row H wa (intsV .u16 W)) (hWn:W.length=wn) (hW16: ∀ x∈W,x<65536) (T:Nat) (hT:T<256):
  CallH Tryz.prog 6 [.slice la ln lc,.slice wa wn wc,.int .u8 T] H fun v H'=>v= .bool true∧Ext H H':=by
 refine Vc.CallH.body Tryz.func6 Tryz.call6 rfl (by decide+kernel) rfl ?_
 cases hlt:lightI L 9 with
 |false=>
  ((conv=>whnf);repeat(any_goals((first|((fail_if_success (have:=hx1));show Go.Vc.CallH _ _ _ _ _;refine(known16_any hg).mono ?_;rintro _ H1 ⟨rfl,hx1⟩;have hz1:=hx1.size)|((fail_if_success (have:=hlq));show Go.Vc.CallH _ _ _ _ _;refine(light_any L la ln lc 9 H1 (hL.ext rin_ok hx1) hLn (by decide)).mono ?_;have hlq:=hlt;rintro _ _ ⟨rfl,rfl⟩;rw[hlt])|refine Vc.stp ?_)<;>(intros;(conv=>whnf)))))
  exact⟨rfl,hx1⟩
 |true=>
 obtain⟨hl20,hl4⟩:=(lightI_iff L 9).1 hlt
 by_cases h6:wn≤4
 ·((conv=>whnf);repeat(any_goals((first|((fail_if_success (have:=hx1));show Go.Vc.CallH _ _ _ _ _;refine(known16_any hg).mono ?_;rintro _ H1 ⟨rfl,hx1⟩;have hz1:=hx1.size)|((fail_if_success (have:=hlq));show Go.Vc.CallH _ _ _ _ _;refine(light_any L la ln lc 9 H1 (hL.ext rin_ok hx1) hLn (by decide)).mono ?_;have hlq:=hlt;rintro _ _ ⟨rfl,rfl⟩;rw[hlt])|((fail_if_success (have:=hx2));show Go.Vc.CallH _ _ _ _ _;refine(reg_made (hg.ext hx1) hl4 (hL.ext rin_ok hx1) hLn (by omega)).mono ?_;rintro _ H2 ⟨⟨R,ra,rc,ga,gn,gc,st,rfl,hMok,hRln,hR,hRc⟩,hx2⟩;have hz2:=hx2.size)|((fail_if_success (have:=hx3));show Go.Vc.CallH _ _ _ _ _;refine(sneeds_any W hW16 wa wn wc H2 (hW.ext (hx1.trans hx2)) hWn (by omega)).mono ?_;rintro _ H3 ⟨⟨na,nc,rfl,hNo⟩,hx3⟩;have hz3:=hx3.size)|refine Vc.stp ?_)<;>(intros;(conv=>whnf)))))
  have hnl:=needsM_len W
  have hnb:=needs_b (L:=W)
  have hNs:=Go.Why.needsM_sort W
  obtain⟨N,hN⟩: ∃ N,needsM W=N:=⟨_,rfl⟩
  rw[hN]at hNo hnl hnb hNs ⊢
  have hO:RegO H3 R N ra rc na nc:=⟨hg.ext (hx1.trans (hx2.trans hx3)),hMok,hRln,by omega,hnb,hR.ext row_ok hx3,hNo.rowL.to fun _ _=>needT_E,hNo.cap_le⟩
  have hx03:=And.intro trivial (hx1.trans (hx2.trans hx3))
  clear hx1 hx2 hx3 hR hNo
  have hrl:(rotR R T).length=R.length:=(rot_perm R T).length_eq
  have ok:=const_ok row_ok H3
  refine LoopH.intro (fun(x:WurS)=>[(12,.int .i64 x.i),(11,.slice x.a ((rotR R T).take x.i).length x.cap)]) (fun x H'=>x.i≤R.length∧OwnE (constE rowE H3) 39 H' H3.size 54 x.a ((rotR R T).take x.i) x.cap∧And True (Ext H3 H')) (fun x=>R.length-x.i) ⟨0,none,0⟩ ⟨rfl,rfl,trivial⟩ ⟨Nat.zero_le _,OwnE.nil _ _ _ _ _,trivial,Ext.refl _⟩ ?_
  rintro⟨i,oa,oc⟩ H5 ⟨hi,ho5,hx5⟩
  dsimp only at hi ho5 ⊢
  have hz5:=hx5.2.size
  by_cases hil:i<R.length
  ·obtain⟨q,hq⟩: ∃ q,(i+T) % R.length=q:=⟨_,rfl⟩
   have hqi:((i:Int)+(T:Int)) % (R.length:Int)=(q:Int):=by rw[←hq];push_cast;rfl
   have hqR:q<R.length:=by rw[←hq];exact Nat.mod_lt _ (by omega)
   obtain⟨r,hr⟩: ∃ r,R[q]? =some r:=⟨_,List.getElem?_eq_getElem hqR⟩
   have hrt:(rotR R T)[i]? =some r:=by rw[rot_at R T i hil,hq];exact hr
   have hts:(rotR R T).take (i+1)=(rotR R T).take i++[r]:=by rw[List.take_add_one,hrt];rfl
   have htl:((rotR R T).take i).length=i:=by rw[List.length_take];omega
   obtain⟨M,hM⟩: ∃ M,(rotR R T).take i=M:=⟨_,rfl⟩
   rw[hM]at ho5 hts htl ⊢
   obtain⟨bR,oR,cR,hcR,hclR,hixR⟩:=hO.row.fix row_ok (by decide) rfl hr
   have hdone:True:=trivial
   ((conv=>whnf);repeat(any_goals((first|(refine RemH.pos (by omega) ?_;rw[hqi])|(refine hixR _ _ rfl ?_)|refine Vc.stp ?_)<;>(intros;(conv=>whnf)))))
   refine SemH.load_irow (H0:=H3) (b:=bR) (o:=oR) (c:=cR) (row_ok.len hcR) hclR hx5.2 ?_
   ((conv=>whnf);repeat(any_goals((first|refine Vc.stp ?_)<;>(intros;(conv=>whnf)))))
   refine SemH.lit (vs:=[.agg cR.toArray]) rfl rfl rfl rfl rfl rfl (by show(Nat.beq cR.toArray.size 39&&true)=true;rw[List.size_toArray,row_ok.len hcR];rfl) ?_
   intro HL zL bL' xL
   have bL:=(show ∀ {b:Nat},Blk HL b (List.flatMap (fun v:Value=>v.cells.toList) [Value.agg cR.toArray]).toArray 54→Blk HL b cR.toArray 54 from fun h=>by simpa [Value.cells]using h) bL'
   ((conv=>whnf);repeat(any_goals((first|refine Vc.stp ?_)<;>(intros;(conv=>whnf)))))
   have ho8:=ho5.ext ok.ok xL
   have hxL:=hx5.2.trans xL
   have hzL:=hxL.size
   refine NextH.appE (l2:=[r]) ok rfl ⟨_,rfl,fun _ h=>by cases h⟩ rfl rfl rfl rfl (by decide) id ho8 rfl (Blk.row bL) (LstV.one hcR) rfl (by omega) (by omega) ?_
   intro aX cX HX hoX hwX hfX
   have hxX:Ext H3 HX:=ext_wr2 (n:=HL.size) hxL (fun p hp=>ho8.block p hp) hwX
   have hlX:(M++[r]).length=M.length+1:=by simp
   ((conv=>whnf);repeat(any_goals((first|refine Vc.stp ?_)<;>(intros;(conv=>whnf)))))
   exact⟨⟨i+1,aX,cX⟩,⟨rfl,by(show Value.slice _ _ _=Value.slice _ _ _;rw[hts,hlX]),trivial⟩,⟨hil,by(dsimp only;rw[hts];exact hoX),trivial,hxX⟩,by show R.length-(i+1)<R.length-i;omega⟩
  ·obtain rfl:i=R.length:=by omega
   rw[List.take_of_length_le (by omega)]at ho5 ⊢
   have hO5:=hO.ext hx5.2
   have hOm:RegO H5 (rotR R T) N oa oc na nc:=⟨hO5.glb,made_rot hMok T,by omega,hO5.nlen,hnb,ho5.row.unconst row_ok hx5.2,hO5.need,hO5.cap⟩
   have hx05:=And.intro trivial (hx03.2.trans hx5.2)
   clear ho5 hO hx5
   obtain⟨fails,hfl⟩:=Go.Why.fails_ex R
   have hfR:FailsR R fails:=⟨hfl⟩
   have hfM:=Go.Why.fails_perm hMok.apart (made_rot hMok T).apart (fun r=>(rot_perm R T).mem_iff) hfR
   have hcl:=Go.Why.core_len fails N
   have hc1:=hO5.core hNs hfR
   have hc2:=fun H' (k:Ext H5 H')=>(hOm.ext k).core hNs hfM
   obtain⟨C,hC⟩: ∃ C,coreF fails N=C:=⟨_,rfl⟩
   rw[hC]at hcl hc1 hc2
   have eC:decide (C=C)=true:=decide_eq_true rfl
   ((conv=>whnf);repeat(any_goals((first|((fail_if_success (have:=hx6));show Go.Vc.CallH _ _ _ _ _;refine hc1.mono ?_;rintro _ H6 ⟨⟨ca,cc,rfl,hcc,hcr⟩,hx6⟩;have hz6:=hx6.size)|((fail_if_success (have:=hx7));show Go.Vc.CallH _ _ _ _ _;refine(hc2 _ hx6).mono ?_;rintro _ H7 ⟨⟨da,dc,rfl,hdc,hdr⟩,hx7⟩;have hz7:=hx7.size;have hsC:=strings_any C C ca da _ _ cc dc H7 (hcr.ext hx7) hdr rfl rfl (by omega) (by omega))|((fail_if_success (have:=hsd));show Go.Vc.CallH _ _ _ _ _;refine hsC.mono ?_;rintro _ _ ⟨rfl,rfl⟩;have hsd:=eC;rw[eC])|((with_reducible refine Vc.DrawH.held [0,1,2,3,4,5,6,7,9,10,11,12,13,14,15,16,8,17,18,19,20,21,22,23,24,25,26,27,28,30,31,32,33,34,35,36,37,29,38,39,40,41] [(8,[16]),(29,[37])] mixed (by decide+kernel) ?_))|refine Vc.stp ?_)<;>(intros;(conv=>whnf)))))
   have hO7:=hO5.ext (hx6.trans hx7)
   have hOm7:=hOm.ext (hx6.trans hx7)
   have hx07:=And.intro trivial (hx05.2.trans (hx6.trans hx7))
   clear hc1 hc2 hsC hsd hcr hdr hO5 hOm hx6 hx7 hx05
   refine hO7.rsolve.mono ?_
   rintro _ H8 ⟨⟨o,hso,hsol⟩,hx8⟩
   have hz8:=hx8.size
   have hx08:=And.intro trivial (hx07.2.trans hx8)
   cases o with
   |none=>
    obtain rfl:=hso
    ((conv=>whnf);repeat(any_goals((first|((with_reducible refine Vc.DrawH.held [0,1,2,3,4,5,6,7,9,10,11,12,13,14,15,16,8,17,18,19,20,21,22,23,24,25,26,27,28,30,31,32,33,34,35,36,37,29,38,39,40,41] [(8,[16]),(29,[37])] mixed (by decide+kernel) ?_))|refine Vc.stp ?_)<;>(intros;(conv=>whnf)))))
    refine LoopH.intro (fun(i:Nat)=>[(15,.int .i64 i)]) (fun i H'=>H8=H') (fun i=>0) 0 ⟨rfl,trivial⟩ rfl ?_
    rintro i _ rfl
    ((conv=>whnf);repeat(any_goals((first|((with_reducible refine Vc.DrawH.held [0,1,2,3,4,5,6,7,9,10,11,12,13,14,15,16,8,17,18,19,20,21,22,23,24,25,26,27,28,30,31,32,33,34,35,36,37,29,38,39,40,41] [(8,[16]),(29,[37])] mixed (by decide+kernel) ?_))|refine Vc.stp ?_)<;>(intros;(conv=>whnf)))))
    exact⟨rfl,hx08.2⟩
   |some P=>
   obtain⟨pa,pn,pc,rfl,hpl,hpc,hPE⟩:=hso
   subst hpl
   have hO8:=hO7.ext hx8
   have hOm8:=hOm7.ext hx8
   have hfit:=hsol.fit
   have hpB:=hO8.pinB hfit
   have hfew:=hO8.few hfit.sorted hfit.row
   clear hO7 hOm7 hx8
   have hp:=fun k H' (x:Ext H8 H')=>(hO8.ext x).path (pc:=pc) hpB hfew (hPE.ext pin_ok x) k
   have hq:=fun k H' (x:Ext H8 H')=>(hOm8.ext x).path (pc:=pc) hpB hfew (hPE.ext pin_ok x) k
   have hu:=fun k H' (x:Ext H8 H')=>(hO8.ext x).users (pc:=pc) hfit.sorted hpB hfew (hPE.ext pin_ok x) k
   have hv:=fun k H' (x:Ext H8 H')=>(hOm8.ext x).users (pc:=pc) hfit.sorted hpB hfew (hPE.ext pin_ok x) k
   ((conv=>whnf);repeat(any_goals((first|((with_reducible refine Vc.DrawH.held [0,1,2,3,4,5,6,7,9,10,11,12,13,14,15,16,8,17,18,19,20,21,22,23,24,25,26,27,28,30,31,32,33,34,35,36,37,29,38,39,40,41] [(8,[16]),(29,[37])] mixed (by decide+kernel) ?_))|refine Vc.stp ?_)<;>(intros;(conv=>whnf)))))
   refine LoopH.intro (fun(i:Nat)=>[(15,.int .i64 i)]) (fun i H'=>i≤P.length∧And True (Ext H8 H')) (fun i=>P.length-i) 0 ⟨rfl,trivial⟩ ⟨Nat.zero_le _,trivial,Ext.refl _⟩ ?_
   rintro i H9 ⟨hi,hx9⟩
   have hz9:=hx9.2.size
   by_cases hil2:i<P.length
   ·obtain⟨p,hpi⟩: ∃ p,P[i]? =some p:=⟨_,List.getElem?_eq_getElem hil2⟩
    have hp1:=hp p.name
    have hq1:=hq p.name
    have hu1:=hu p.name
    have hv1:=hv p.name
    rw[Go.Why.path_perm hMok.apart (rot_perm R T)]at hq1
    rw[Go.Why.users_perm hMok.apart (rot_perm R T)]at hv1
    have hAl:=hO8.path_len (P:=P) p.name
    have hUl:=Go.Why.users_bound R N P p.name
    obtain⟨A,hA⟩: ∃ A,pathF R N P p.name=A:=⟨_,rfl⟩
    obtain⟨U,hU⟩: ∃ U,usersF R N P p.name=U:=⟨_,rfl⟩
    rw[hA]at hp1 hq1 hAl
    rw[hU]at hu1 hv1 hUl
    have eA:decide (A=A)=true:=decide_eq_true rfl
    have eU:decide (U=U)=true:=decide_eq_true rfl
    obtain⟨bQ,oQ,cQ,hcQ,hclQ,hixQ⟩:=hPE.fix pin_ok (by decide) rfl hpi
    obtain⟨ya,yc,eQ,h32,hyl,hyr⟩:=id hcQ
    have hq0:hcell H8 ⟨bQ,oQ,none⟩=some (Value.string (mkS p.name)):=(by have:=hclQ 0 _ (by rw[eQ];rfl);exact this)
    have hx89:=hx9.2
    ((conv=>whnf);repeat(any_goals((first|(refine hixQ _ _ rfl ?_)|((fail_if_success (have:=hxa));show Go.Vc.CallH _ _ _ _ _;refine(hp1 _ (hx9.2.trans (by exact Vc.xt))).mono ?_;rintro _ Ha ⟨⟨aa,ca,rfl,hca,hra⟩,hxa⟩;have hza:=hxa.size)|((fail_if_success (have:=hxb));show Go.Vc.CallH _ _ _ _ _;refine(hq1 _ (hx9.2.trans (by exact Vc.xt))).mono ?_;rintro _ Hb ⟨⟨ab,cb,rfl,hcb,hrb⟩,hxb⟩;have hzb:=hxb.size;have hsA:=strings_any A A aa ab _ _ ca cb Hb (hra.ext hxb) hrb rfl rfl (by omega) (by omega))|((fail_if_success (have:=hsAd));show Go.Vc.CallH _ _ _ _ _;refine hsA.mono ?_;rintro _ _ ⟨rfl,rfl⟩;have hsAd:=eA;rw[eA])|((fail_if_success (have:=hxc));show Go.Vc.CallH _ _ _ _ _;refine(hu1 _ (hx9.2.trans (hxa.trans (hxb.trans (by exact Vc.xt))))).mono ?_;rintro _ Hc ⟨⟨ac,cc,rfl,hrc,hcc⟩,hxc⟩;have hzc:=hxc.size)|((fail_if_success (have:=hxd));show Go.Vc.CallH _ _ _ _ _;refine(hv1 _ (hx9.2.trans (hxa.trans (hxb.trans (hxc.trans (by exact Vc.xt)))))).mono ?_;rintro _ Hd ⟨⟨ad,cd,rfl,hrd,hcd⟩,hxd⟩;have hzd:=hxd.size;have hsU:=strings_any U U ac ad _ _ cc cd Hd (hrc.ext hxd) hrd rfl rfl (by omega) (by omega))|(show Go.Vc.CallH _ _ _ _ _;refine hsU.mono ?_;rintro _ _ ⟨rfl,rfl⟩;rw[eU])|((with_reducible refine Vc.DrawH.held [0,1,2,3,4,5,6,7,9,10,11,12,13,14,15,16,8,17,18,19,20,21,22,23,24,25,26,27,28,30,31,32,33,34,35,36,37,29,38,39,40,41] [(8,[16]),(29,[37])] mixed (by decide+kernel) ?_))|refine Vc.stp ?_)<;>(intros;(conv=>whnf)))))
    exact⟨i+1,⟨rfl,trivial⟩,⟨by omega,trivial,hx9.2.trans (hxa.trans (hxb.trans (hxc.trans hxd)))⟩,by omega⟩
   ·obtain rfl:i=P.length:=by omega
    ((conv=>whnf);repeat(any_goals((first|((with_reducible refine Vc.DrawH.held [0,1,2,3,4,5,6,7,9,10,11,12,13,14,15,16,8,17,18,19,20,21,22,23,24,25,26,27,28,30,31,32,33,34,35,36,37,29,38,39,40,41] [(8,[16]),(29,[37])] mixed (by decide+kernel) ?_))|refine Vc.stp ?_)<;>(intros;(conv=>whnf)))))
    exact⟨rfl,hx08.2.trans hx9.2⟩
 ·((conv=>whnf);repeat(any_goals((first|((fail_if_success (have:=hx1));show Go.Vc.CallH _ _ _ _ _;refine(known16_any hg).mono ?_;rintro _ H1 ⟨rfl,hx1⟩;have hz1:=hx1.size)|((fail_if_success (have:=hlq));show Go.Vc.CallH _ _ _ _ _;refine(light_any L la ln lc 9 H1 (hL.ext rin_ok hx1) hLn (by decide)).mono ?_;have hlq:=hlt;rintro _ _ ⟨rfl,rfl⟩;rw[hlt])|refine Vc.stp ?_|refine Vc.spl ?_ ?_)<;>(intros;(conv=>whnf)))))
  all_goals exact⟨rfl,hx1⟩
end Go.Proofs.YtjdieklgoepdjaaGreatDoor
