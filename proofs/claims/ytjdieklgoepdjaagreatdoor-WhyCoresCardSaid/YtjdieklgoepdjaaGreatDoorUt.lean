import Derived.Test.YtjdieklgoepdjaaGreatDoorKu
import Derived.Test.YtjdieklgoepdjaaGreatDoorKd
set_option linter.unusedVariables false
set_option linter.unusedSimpArgs false
set_option maxRecDepth 100000
/- WhyCores, walked. -/
namespace Go.Proofs.YtjdieklgoepdjaaGreatDoor
open Go Go.Vc Go.Scr Go.Slv
open Go.Why (SortN FailsR coreF coreL pickC cntC hitC)
structure CoA where
 k:Nat
 a:Option Addr
 cap:Nat
set_option maxHeartbeats 8000000 in
theorem cores_any {H:Heap} (hg:Glb H) (L:List RowI) (la:Option Addr) (ln lc:Nat) (hL:RowE rinE H la L) (hLn:L.length=ln) (W:List Nat) (wa:Option Addr) (wn wc:Nat) (hW:Row H wa (intsV .u16 W)) (hWn:W.length=wn) (hW16: ∀ x∈W,x<65536):
  CallH Tryz.prog 4 [.slice la ln lc,.slice wa wn wc] H fun v H'=>v= .bool true∧Ext H H':=by
 refine Vc.CallH.body Tryz.func4 Tryz.call4 rfl (by decide+kernel) rfl ?_
 cases hlt:lightI L 10 with
 |false=>
  ((conv=>whnf);repeat(any_goals((first|((fail_if_success (have:=hx1));show Go.Vc.CallH _ _ _ _ _;refine(known16_any hg).mono ?_;rintro _ H1 ⟨rfl,hx1⟩;have hz1:=hx1.size)|((fail_if_success (have:=hlq));show Go.Vc.CallH _ _ _ _ _;refine(light_any L la ln lc 10 H1 (hL.ext rin_ok hx1) hLn (by decide)).mono ?_;have hlq:=hlt;rintro _ _ ⟨rfl,rfl⟩;rw[hlt])|refine Vc.stp ?_)<;>(intros;(conv=>whnf)))))
  exact⟨rfl,hx1⟩
 |true=>
 obtain⟨hl20,hl4⟩:=(lightI_iff L 10).1 hlt
 by_cases h6:wn≤5
 ·((conv=>whnf);repeat(any_goals((first|((fail_if_success (have:=hx1));show Go.Vc.CallH _ _ _ _ _;refine(known16_any hg).mono ?_;rintro _ H1 ⟨rfl,hx1⟩;have hz1:=hx1.size)|((fail_if_success (have:=hlq));show Go.Vc.CallH _ _ _ _ _;refine(light_any L la ln lc 10 H1 (hL.ext rin_ok hx1) hLn (by decide)).mono ?_;have hlq:=hlt;rintro _ _ ⟨rfl,rfl⟩;rw[hlt])|((fail_if_success (have:=hx2));show Go.Vc.CallH _ _ _ _ _;refine(reg_made (hg.ext hx1) hl4 (hL.ext rin_ok hx1) hLn (by omega)).mono ?_;rintro _ H2 ⟨⟨R,ra,rc,ga,gn,gc,st,rfl,hMok,hRln,hR,hRc⟩,hx2⟩;have hz2:=hx2.size)|((fail_if_success (have:=hx3));show Go.Vc.CallH _ _ _ _ _;refine(sneeds_any W hW16 wa wn wc H2 (hW.ext (hx1.trans hx2)) hWn (by omega)).mono ?_;rintro _ H3 ⟨⟨na,nc,rfl,hNo⟩,hx3⟩;have hz3:=hx3.size)|refine Vc.stp ?_)<;>(intros;(conv=>whnf)))))
  have hnl:=needsM_len W
  have hnb:=needs_b (L:=W)
  have hNs:=Go.Why.needsM_sort W
  obtain⟨N,hN⟩: ∃ N,needsM W=N:=⟨_,rfl⟩
  rw[hN]at hNo hnl hnb hNs ⊢
  have hO:RegO H3 R N ra rc na nc:=⟨hg.ext (hx1.trans (hx2.trans hx3)),hMok,hRln,by omega,hnb,hR.ext row_ok hx3,hNo.rowL.to fun _ _=>needT_E,hNo.cap_le⟩
  have hx03:=And.intro trivial (hx1.trans (hx2.trans hx3))
  clear hx1 hx2 hx3 hR hNo
  obtain⟨fails,hfl⟩:=Go.Why.fails_ex R
  have hfR:FailsR R fails:=⟨hfl⟩
  have hcl:=Go.Why.core_len fails N
  have hce:=fun h=>hfR.empty (N:=N) hMok.apart h
  have hcs:=fun h=>hfR.some (N:=N) h
  have hc1:=hO.core hNs hfR
  have hc2:=fun H' (k:Ext H3 H')=>(hO.ext k).rcore hfR
  obtain⟨C,hC⟩: ∃ C,coreF fails N=C:=⟨_,rfl⟩
  rw[hC]at hcl hce hcs hc1 hc2
  have eC:decide (C=C)=true:=decide_eq_true rfl
  ((conv=>whnf);repeat(any_goals((first|((fail_if_success (have:=hx4));show Go.Vc.CallH _ _ _ _ _;refine hc1.mono ?_;rintro _ H4 ⟨⟨ca,cc,rfl,hcc,hcr⟩,hx4⟩;have hz4:=hx4.size)|((fail_if_success (have:=hx5));show Go.Vc.CallH _ _ _ _ _;refine(hc2 _ hx4).mono ?_;rintro _ H5 ⟨⟨da,dc,rfl,hdo⟩,hx5⟩;have hz5:=hx5.size;have hsC:=strings_any C C ca da _ _ cc dc H5 (hcr.ext hx5) hdo.row rfl rfl (by omega) (by omega))|((fail_if_success (have:=hsd));show Go.Vc.CallH _ _ _ _ _;refine hsC.mono ?_;rintro _ _ ⟨rfl,rfl⟩;have hsd:=eC;rw[eC])|refine Vc.stp ?_)<;>(intros;(conv=>whnf)))))
  have hO5:=hO.ext (hx4.trans hx5)
  have hx05:=And.intro trivial (hx03.2.trans (hx4.trans hx5))
  have hcr5:=hcr.ext hx5
  clear hc1 hc2 hsC hdo hcr hx4 hx5 hsd hO
  by_cases hC0:C.length=0
  ·have hf0:=hce (List.eq_nil_of_length_eq_zero hC0)
   ((conv=>whnf);repeat(any_goals((first|refine Vc.stp ?_)<;>(intros;(conv=>whnf)))))
   refine hO5.rsolve.mono ?_
   rintro _ H6 ⟨⟨o,hso,hsol⟩,hx6⟩
   cases o with
   |none=>exact absurd ((hfl N).2 hsol) (by rw[hf0];simp)
   |some P=>
    obtain⟨pa,pn,pc,rfl,hpl,hpc,hPE⟩:=hso
    ((conv=>whnf);repeat(any_goals((first|refine Vc.stp ?_)<;>(intros;(conv=>whnf)))))
    exact⟨rfl,hx05.2.trans hx6⟩
  ·obtain⟨hfN,hCe⟩:=hcs (fun e=>hC0 (by rw[e];rfl))
   have hall:=Go.Why.core_all hfR hMok.apart hfN
   have hbut:=fun i hi=>Go.Why.core_but hfR hMok.apart hNs hfN (i:=i) hi
   have hCl:(coreL fails [] N).length=C.length:=by rw[hCe,List.length_map]
   rw[←hCe]at hall hbut
   rw[hCl]at hbut
   have ok:=const_ok need_ok H5
   ((conv=>whnf);repeat(any_goals((first|refine Vc.stp ?_)<;>(intros;(conv=>whnf)))))
   refine LoopH.intro (fun(i:Int)=>[(12,.int .i64 i)]) (fun i H'=> -1≤i∧i≤C.length∧And True (Ext H5 H')) (fun i=>(C.length-i).toNat) (-1) ⟨rfl,trivial⟩ ⟨by omega,by omega,trivial,Ext.refl _⟩ ?_
   rintro i H6 ⟨hi1,hi2,hx6⟩
   have hz6:=hx6.2.size
   by_cases hil:i<C.length
   ·((conv=>whnf);repeat(any_goals((first|refine Vc.stp ?_)<;>(intros;(conv=>whnf)))))
    refine LoopH.intro (fun(x:CoA)=>[(14,.int .i64 x.k),(13,.slice x.a (pickC C i (N.take x.k)).length x.cap)]) (fun x H'=>x.k≤N.length∧OwnE (constE needE H5) 4 H' H6.size 45 x.a (pickC C i (N.take x.k)) x.cap∧And True (Ext H6 H')) (fun x=>N.length-x.k) ⟨0,none,0⟩ ⟨rfl,rfl,trivial⟩ ⟨Nat.zero_le _,OwnE.nil _ _ _ _ _,trivial,Ext.refl _⟩ ?_
    rintro⟨k,oa,oc⟩ H7 ⟨hk,ho7,hx7⟩
    dsimp only at hk ho7 ⊢
    have hz7:=hx7.2.size
    have hpl:=Go.Why.pickC_len C i (N.take k)
    have hmul:(N.take k).length*C.length≤5*5:=Nat.mul_le_mul (by rw[List.length_take];omega) (by omega)
    by_cases hkl:k<N.length
    ·obtain⟨n,hn⟩: ∃ n,N[k]? =some n:=⟨_,List.getElem?_eq_getElem hkl⟩
     have hsn:=Go.Why.pickC_snoc (c:=C) (i:=i) hn
     obtain⟨S,hS⟩: ∃ S,pickC C i (N.take k)=S:=⟨_,rfl⟩
     rw[hS]at ho7 hsn hpl ⊢
     ((conv=>whnf);repeat(any_goals((first|refine Vc.stp ?_)<;>(intros;(conv=>whnf)))))
     refine LoopH.intro (fun(x:CoA)=>[(15,.int .i64 x.k),(13,.slice x.a (S++List.replicate (cntC C i n.name x.k) n).length x.cap)]) (fun x H'=>x.k≤C.length∧OwnE (constE needE H5) 4 H' H6.size 45 x.a (S++List.replicate (cntC C i n.name x.k) n) x.cap∧And True (Ext H6 H')) (fun x=>C.length-x.k) ⟨0,oa,oc⟩ ⟨rfl,by show Value.slice _ _ _=Value.slice _ _ _;simp[cntC],trivial⟩ ⟨Nat.zero_le _,by simpa [cntC]using ho7,hx7⟩ ?_
     rintro⟨j,oa,oc⟩ H8 ⟨hj,ho8,hx8⟩
     dsimp only at hj ho8 ⊢
     have hz8:=hx8.2.size
     have hx58:Ext H5 H8:=hx6.2.trans hx8.2
     have hcj:=Go.Why.cntC_le C i n.name j
     have hcs:=Go.Why.cntC_succ C i n.name j
     by_cases hjl:j<C.length
     ·obtain⟨q,hq⟩: ∃ q,C[j]? =some q:=⟨_,List.getElem?_eq_getElem hjl⟩
      have e1:((mkS q).toList==(mkS n.name).toList)=decide (q=n.name):=by rw[str_mk]
      have hhit:hitC C i n.name j=(decide ((j:Int)≠i)&&decide (q=n.name)):=by unfold Go.Why.hitC;rw[hq];simp
      obtain⟨bN,oN,cN,hcN,hclN,hixN⟩:=hO5.need.fix need_ok (by decide) rfl hn
      obtain⟨sa,sc,ec,hsl2,hsr⟩:=id hcN
      have hn0:hcell H5 ⟨bN,oN,none⟩=some (Value.string (mkS n.name)):=(by have:=hclN 0 _ (by rw[ec];rfl);exact this)
      by_cases hji:(j:Int)=i
      ·rw[hhit,decide_eq_false (by simpa using hji)]at hcs
       have hcs:cntC C i n.name (j+1)=cntC C i n.name j:=hcs
       ((conv=>whnf);repeat(any_goals((first|refine Vc.stp ?_)<;>(intros;(conv=>whnf)))))
       exact⟨⟨j+1,oa,oc⟩,⟨rfl,by show Value.slice _ _ _=Value.slice _ _ _;rw[hcs],trivial⟩,⟨by show j+1≤C.length;omega,by dsimp only;rw[hcs];exact ho8,hx8⟩,by show C.length-(j+1)<C.length-j;omega⟩
      ·rw[hhit,decide_eq_true hji]at hcs
       by_cases hqn:q=n.name
       ·rw[decide_eq_true hqn]at hcs e1
        have hcs:cntC C i n.name (j+1)=cntC C i n.name j+1:=hcs
        ((conv=>whnf);repeat(any_goals((first|(refine IdxA.strv (hcr5.ext hx58) rfl j q rfl hq ?_;intro _ _ _ _ _)|(refine hixN _ _ rfl ?_)|((with_reducible apply SemH.load_el);(focus(rfl));(focus(rfl));(focus((show 4=_;exact(need_ok.len hcN).symm)));(focus((exact hclN)));(focus((exact Vc.xt)));(focus((conv=>whnf))))|refine Vc.stp ?_)<;>(intros;(conv=>whnf)))))
        refine SemH.lit (vs:=[.agg cN.toArray]) rfl rfl rfl rfl rfl rfl (by show(Nat.beq cN.toArray.size 4&&true)=true;rw[List.size_toArray,need_ok.len hcN];rfl) ?_
        intro HL zL bL' xL
        have bL:=(show ∀ {b:Nat},Blk HL b (List.flatMap (fun v:Value=>v.cells.toList) [Value.agg cN.toArray]).toArray 45→Blk HL b cN.toArray 45 from fun h=>by simpa [Value.cells]using h) bL'
        ((conv=>whnf);repeat(any_goals((first|refine Vc.stp ?_)<;>(intros;(conv=>whnf)))))
        have ho9:=ho8.ext ok.ok xL
        have hzL:=xL.size
        have hlen:(S++List.replicate (cntC C i n.name j) n).length≤40:=by rw[List.length_append,List.length_replicate];omega
        refine NextH.appE (l2:=[n]) ok rfl ⟨_,rfl,fun _ h=>by cases h⟩ rfl rfl rfl rfl (by decide) id ho9 rfl (Blk.row bL) (LstV.one hcN) rfl (by omega) (by omega) ?_
        intro aX cX HX hoX hwX hfX
        have hxX:Ext H6 HX:=ext_wr2 (n:=HL.size) (hx8.2.trans xL) (fun p hp=>ho9.block p hp) hwX
        have hrep:S++List.replicate (cntC C i n.name j) n++[n]=S++List.replicate (cntC C i n.name (j+1)) n:=by rw[hcs,List.append_assoc,List.replicate_succ']
        have hrl:(S++List.replicate (cntC C i n.name (j+1)) n).length=(S++List.replicate (cntC C i n.name j) n).length+1:=by rw[←hrep,List.length_append];rfl
        ((conv=>whnf);repeat(any_goals((first|refine Vc.stp ?_)<;>(intros;(conv=>whnf)))))
        exact⟨⟨j+1,aX,cX⟩,⟨rfl,by show Value.slice _ _ _=Value.slice _ _ _;rw[hrl],trivial⟩,⟨by show j+1≤C.length;omega,by dsimp only;rw[←hrep];exact hoX,trivial,hxX⟩,by show C.length-(j+1)<C.length-j;omega⟩
       ·rw[decide_eq_false hqn]at hcs e1
        have hcs:cntC C i n.name (j+1)=cntC C i n.name j:=hcs
        ((conv=>whnf);repeat(any_goals((first|(refine IdxA.strv (hcr5.ext hx58) rfl j q rfl hq ?_;intro _ _ _ _ _)|(refine hixN _ _ rfl ?_)|refine Vc.stp ?_)<;>(intros;(conv=>whnf)))))
        exact⟨⟨j+1,oa,oc⟩,⟨rfl,by show Value.slice _ _ _=Value.slice _ _ _;rw[hcs],trivial⟩,⟨by show j+1≤C.length;omega,by dsimp only;rw[hcs];exact ho8,hx8⟩,by show C.length-(j+1)<C.length-j;omega⟩
     ·obtain rfl:j=C.length:=by omega
      rw[←hsn]at ho8 ⊢
      ((conv=>whnf);repeat(any_goals((first|refine Vc.stp ?_)<;>(intros;(conv=>whnf)))))
      exact⟨⟨k+1,oa,oc⟩,⟨rfl,rfl,trivial⟩,⟨by show k+1≤N.length;omega,ho8,hx8⟩,by show N.length-(k+1)<N.length-k;omega⟩
    ·obtain rfl:k=N.length:=by omega
     rw[List.take_of_length_le (Nat.le_refl _)]at ho7 hpl hmul ⊢
     have hmem: ∀ m∈pickC C i N,SpnB m.span:=fun m hm=>hnb m (Go.Why.pickC_mem.1 hm).1
     have hlen:=ho7.cap_le
     have hx57:=hx6.2.trans hx7.2
     ((conv=>whnf);repeat(any_goals((first|refine Vc.stp ?_)<;>(intros;(conv=>whnf)))))
     refine(rsolve_any R hMok.apart (made_bounds hMok) (pickC C i N) hmem ra oa _ rc _ oc 1 (by decide) H7 (hO5.row.ext row_ok hx57) (ho7.row.unconst need_ok hx57) rfl rfl (by omega) (by omega) (by omega)).mono ?_
     rintro _ H9 ⟨⟨o,hso,hsol⟩,hx9⟩
     by_cases hneg:i<0
     ·have hi9:i= -1:=by omega
      subst hi9
      cases o with
      |some P=>exact absurd hsol.fit ((hfl _).1 hall P)
      |none=>
       obtain rfl:=hso
       ((conv=>whnf);repeat(any_goals((first|refine Vc.stp ?_)<;>(intros;(conv=>whnf)))))
       exact⟨-1+1,⟨rfl,trivial⟩,⟨by omega,by omega,trivial,hx57.trans hx9⟩,by omega⟩
     ·obtain⟨m,rfl⟩: ∃ m:Nat,i=(m:Int):=⟨i.toNat,by omega⟩
      have hbm:=hbut m (by omega)
      cases o with
      |none=>exact absurd ((hfl _).2 hsol) (by rw[hbm];simp)
      |some P=>
       obtain⟨pa,pn,pc,rfl,hpl,hpc,hPE⟩:=hso
       have hm0:(((0:Int) != 0)==decide ((m:Int)<0))=true:=by rw[decide_eq_false (by omega)];rfl
       ((conv=>whnf);repeat(any_goals((first|refine Vc.stp ?_)<;>(intros;(conv=>whnf)))))
       exact⟨(m:Int)+1,⟨rfl,trivial⟩,⟨by omega,by omega,trivial,hx57.trans hx9⟩,by omega⟩
   ·obtain rfl:i=C.length:=by omega
    ((conv=>whnf);repeat(any_goals((first|refine Vc.stp ?_)<;>(intros;(conv=>whnf)))))
    exact⟨rfl,hx05.2.trans hx6.2⟩
 ·((conv=>whnf);repeat(any_goals((first|((fail_if_success (have:=hx1));show Go.Vc.CallH _ _ _ _ _;refine(known16_any hg).mono ?_;rintro _ H1 ⟨rfl,hx1⟩;have hz1:=hx1.size)|((fail_if_success (have:=hlq));show Go.Vc.CallH _ _ _ _ _;refine(light_any L la ln lc 10 H1 (hL.ext rin_ok hx1) hLn (by decide)).mono ?_;have hlq:=hlt;rintro _ _ ⟨rfl,rfl⟩;rw[hlt])|refine Vc.stp ?_|refine Vc.spl ?_ ?_)<;>(intros;(conv=>whnf)))))
  all_goals exact⟨rfl,hx1⟩
end Go.Proofs.YtjdieklgoepdjaaGreatDoor
