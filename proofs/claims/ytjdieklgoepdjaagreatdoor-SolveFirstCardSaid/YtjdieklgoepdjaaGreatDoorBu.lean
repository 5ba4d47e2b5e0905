import Derived.Test.YtjdieklgoepdjaaGreatDoorBo
set_option linter.unusedVariables false
set_option linter.unusedSimpArgs false
set_option maxRecDepth 100000
/- SolveFirst: the first name's version is the greatest with which anything fits. -/
namespace Go.Slv
open Go.Scr Go.Tre
def keepR (k0:Txt) (v:VerP) (r:RowP):Bool:=if r.name=k0 then decide (cmpV r.v v=0)else true
theorem made_sub {R M:List RowP} (h:MadeOk R) (hs:M.Sublist R):MadeOk M:=⟨apart_pair.2 ((apart_pair.1 h.apart).sublist hs),fun r hr=>h.row r (hs.subset hr)⟩
end Go.Slv
namespace Go.Proofs.YtjdieklgoepdjaaGreatDoor
open Go Go.Vc Go.Scr Go.Slv
theorem flat_row {H:Heap} {b:Nat} {c:List Value} {t:TypeId} (h:Blk H b (List.flatMap (fun v:Value=>v.cells.toList) [Value.agg c.toArray]).toArray t):Blk H b c.toArray t:=by simpa [Value.cells]using h
structure FiS where
 k:Nat
 a:Option Addr
 cap:Nat
set_option maxHeartbeats 4000000 in
theorem first_any {H:Heap} (hg:Glb H) (L:List RowI) (la:Option Addr) (ln lc:Nat) (hL:RowE rinE H la L) (hLn:L.length=ln) (W:List Nat) (wa:Option Addr) (wn wc:Nat) (hW:Row H wa (intsV .u16 W)) (hWn:W.length=wn) (hW16: ∀ x∈W,x<65536):
  CallH Tryz.prog 15 [.slice la ln lc,.slice wa wn wc] H fun v H'=>v= .bool true∧Ext H H':=by
 refine Vc.CallH.body Tryz.func15 Tryz.call15 rfl (by decide+kernel) rfl ?_
 cases hlt:lightI L 12 with
 |false=>
  ((conv=>whnf);repeat(any_goals((first|((fail_if_success (have:=hx1));show Go.Vc.CallH _ _ _ _ _;refine(known15_any hg).mono ?_;rintro _ H1 ⟨rfl,hx1⟩;have hz1:=hx1.size)|((fail_if_success (have:=hlq));show Go.Vc.CallH _ _ _ _ _;refine(some_any L la ln lc H1 (hL.ext rin_ok hx1) hLn).mono ?_;have hlq:=hlt;rintro _ _ ⟨rfl,rfl⟩;rw[hlt])|refine Vc.stp ?_)<;>(intros;(conv=>whnf)))))
  exact⟨rfl,hx1⟩
 |true=>
 obtain⟨hl20,hl4⟩:=(lightI_iff L 12).1 hlt
 by_cases h6:1≤wn∧wn≤4
 ·obtain⟨h6a,h6b⟩:=h6
  ((conv=>whnf);repeat(any_goals((first|((fail_if_success (have:=hx1));show Go.Vc.CallH _ _ _ _ _;refine(known15_any hg).mono ?_;rintro _ H1 ⟨rfl,hx1⟩;have hz1:=hx1.size)|((fail_if_success (have:=hlq));show Go.Vc.CallH _ _ _ _ _;refine(some_any L la ln lc H1 (hL.ext rin_ok hx1) hLn).mono ?_;have hlq:=hlt;rintro _ _ ⟨rfl,rfl⟩;rw[hlt])|(show Go.Vc.CallH _ _ _ _ _;refine(reg_made (hg.ext hx1) hl4 (hL.ext rin_ok hx1) hLn (by omega)).mono ?_;rintro _ H2 ⟨⟨R,ra,rc,ga,gn,gc,st,rfl,hMok,hRl,hR,hRc⟩,hx2⟩;have hz2:=hx2.size)|(show Go.Vc.CallH _ _ _ _ _;refine(sneeds_any W hW16 wa wn wc H2 (hW.ext (hx1.trans hx2)) hWn (by omega)).mono ?_;rintro _ H3 ⟨⟨na,nc,rfl,hNo⟩,hx3⟩;have hz3:=hx3.size)|refine Vc.stp ?_)<;>(intros;(conv=>whnf)))))
  have hnl:=needsM_len W
  have hnb:=needs_b (L:=W)
  have hO:RegO H3 R (needsM W) ra rc na nc:=⟨hg.ext (hx1.trans (hx2.trans hx3)),hMok,hRl,by omega,hnb,hR.ext row_ok hx3,hNo.rowL.to fun _ _=>needT_E,hNo.cap_le⟩
  obtain⟨N,hN⟩: ∃ N,needsM W=N:=⟨_,rfl⟩
  rw[hN]at hO ⊢
  have hx03:=And.intro trivial (hx1.trans (hx2.trans hx3))
  refine(hO.solve 1048576).mono ?_
  rintro _ H4 ⟨hs4,hx4⟩
  have hz4:=hx4.size
  rcases solveR_big hMok (by omega) hs4 with ⟨P,pa,pc,rfl,hpc,hsol,hP4⟩|⟨rfl,hsol⟩
  ·have hfit:FitP R N P:=hsol.fit
   have hPl:=hO.few hfit.sorted hfit.row
   cases P with
   |nil=>
    ((conv=>whnf);repeat(any_goals((first|refine Vc.stp ?_)<;>(intros;(conv=>whnf)))))
    exact⟨rfl,hx03.2.trans hx4⟩
   |cons p P=>
   obtain⟨bP,oP,cP,hcP,hclP,hixP⟩:=hP4.fix pin_ok (by decide) rfl (show(p::P)[0]? =some p from rfl)
   obtain⟨pa1,pc1,ecP,h32P,hplP,hprP⟩:=(id hcP)
   have hpn:hcell H4 ⟨bP,oP+0,none⟩=some (.string (mkS p.name)):=hclP 0 _ (by rw[ecP];rfl)
   have hpv: ∀ (k:Nat) (u:Value),([.int .i64 p.v.ma,.int .i64 p.v.mi,.int .i64 p.v.pa,.slice pa1 p.v.pre.length pc1]:List Value)[k]? =some u→hcell H4 ⟨bP,oP+1+k,none⟩=some u:=fun k u hu=>by rw[Nat.add_assoc,Nat.add_comm 1 k];exact hclP (k+1) u (pin_ver ecP k u hu)
   have hpB:VerB p.v:=hO.pinv hfit.row p List.mem_cons_self
   have hP1:(p::P).length=P.length+1:=rfl
   have hB:=made_bounds hMok
   ((conv=>whnf);repeat(any_goals((first|(refine hixP _ _ rfl ?_)|(show Go.Vc.CallH _ _ _ _ _;refine(rversions_any R hMok.apart p.name (rows_ver hB) ra R.length rc H4 ((hO.ext hx4).row) rfl (by omega)).mono ?_;rintro _ H5 ⟨⟨va,vc,rfl,hov⟩,hx5⟩;have hz5:=hx5.size)|refine Vc.stp ?_)<;>(intros;(conv=>whnf)))))
   have hVa:=fun i v (h:(versF R p.name R.length)[i]? =some v)=>vers_at h
   have hVl:=versF_len R p.name R.length
   obtain⟨V,hV⟩: ∃ V,versF R p.name R.length=V:=⟨_,rfl⟩
   rw[hV]at hVa hVl hov ⊢
   refine LoopH.intro (fun(i:Nat)=>[(12,.int .i64 i)]) (fun i H'=>i≤V.length∧Ext H5 H') (fun i=>V.length-i) 0 ⟨rfl,trivial⟩ ⟨Nat.zero_le _,Ext.refl _⟩ ?_
   rintro i H6 ⟨hi,hx6⟩
   have hz6:=hx6.size
   have hx56:=And.intro trivial hx6
   have hx46:=And.intro trivial (hx5.trans hx6)
   by_cases hil:i<V.length
   ·obtain⟨v,hv⟩: ∃ v,V[i]? =some v:=⟨_,List.getElem?_eq_getElem hil⟩
    obtain⟨ri,r1,hci,hri,hrk,hrv1⟩:=hVa i v hv
    have hvB:VerB v:=by rw[←hrv1];exact rows_ver hB r1 (List.mem_of_getElem? hri)
    obtain⟨bV,oV,cV,hcV,hclV,hixV⟩:=hov.row.fix ver_ok (by decide) rfl hv
    obtain⟨xa,xc,ecV,hvl,hvr⟩:=(id hcV)
    have hvv: ∀ (k:Nat) (u:Value),([.int .i64 v.ma,.int .i64 v.mi,.int .i64 v.pa,.slice xa v.pre.length xc]:List Value)[k]? =some u→hcell H5 ⟨bV,oV+k,none⟩=some u:=fun k u hu=>hclV k u (by rw[ecV];exact hu)
    by_cases hle:cmpV v p.v≤0
    ·((conv=>whnf);repeat(any_goals((first|(refine hixV _ _ rfl ?_)|(refine hixP _ _ rfl ?_)|((with_reducible apply SemH.load_ver);(focus((exact hvv)));(focus((exact hx56.2.trans (by exact Vc.xt))));(focus((conv=>whnf))))|((with_reducible apply SemH.load_ver);(focus((exact hpv)));(focus((exact hx46.2.trans (by exact Vc.xt))));(focus((conv=>whnf))))|(show Go.Vc.CallH _ _ _ _ _;refine(rcmpv_any v p.v hvB hpB _ _ _ (verO_of hvl (hvr.ext (hx56.2.trans (by exact Vc.xt)))) (verO_of hplP (hprP.ext (hx46.2.trans (by exact Vc.xt))))).mono ?_;rintro _ H7 ⟨rfl,hx7⟩;have hz7:=hx7.size)|refine Vc.stp ?_)<;>(intros;(conv=>whnf)))))
     exact⟨i+1,⟨rfl,trivial⟩,⟨hil,hx6.trans hx7⟩,by omega⟩
    ·((conv=>whnf);repeat(any_goals((first|(refine hixV _ _ rfl ?_)|(refine hixP _ _ rfl ?_)|((with_reducible apply SemH.load_ver);(focus((exact hvv)));(focus((exact hx56.2.trans (by exact Vc.xt))));(focus((conv=>whnf))))|((with_reducible apply SemH.load_ver);(focus((exact hpv)));(focus((exact hx46.2.trans (by exact Vc.xt))));(focus((conv=>whnf))))|(show Go.Vc.CallH _ _ _ _ _;refine(rcmpv_any v p.v hvB hpB _ _ _ (verO_of hvl (hvr.ext (hx56.2.trans (by exact Vc.xt)))) (verO_of hplP (hprP.ext (hx46.2.trans (by exact Vc.xt))))).mono ?_;rintro _ H7 ⟨rfl,hx7⟩;have hz7:=hx7.size)|refine Vc.stp ?_)<;>(intros;(conv=>whnf)))))
     refine LoopH.intro (fun(s:FiS)=>[(14,.int .i64 s.k),(13,.slice s.a ((R.take s.k).filter (keepR p.name v)).length s.cap)]) (fun s H'=>s.k≤R.length∧OwnE (constE rowE H3) 39 H' H7.size 54 s.a ((R.take s.k).filter (keepR p.name v)) s.cap∧Ext H7 H') (fun s=>R.length-s.k) ⟨0,none,0⟩ ⟨rfl,rfl,trivial⟩ ⟨Nat.zero_le _,OwnE.nil _ _ _ _ _,Ext.refl _⟩ ?_
     rintro⟨k,oa,oc⟩ H8 ⟨hk,ho,hx8⟩
     dsimp only at hk ho ⊢
     have hz8:=hx8.size
     have hx58:=And.intro trivial (hx6.trans (hx7.trans hx8))
     have hx48:=And.intro trivial (hx5.trans hx58.2)
     have hx38:=And.intro trivial (hx4.trans hx48.2)
     have hMs:((R.take k).filter (keepR p.name v)).length≤k:=by
      have h1:=List.length_filter_le (keepR p.name v) (R.take k)
      rw[List.length_take]at h1
      omega
     by_cases hkl:k<R.length
     ·obtain⟨r,hr⟩: ∃ r,R[k]? =some r:=⟨_,List.getElem?_eq_getElem hkl⟩
      have hrB:=rows_ver hB r (List.mem_of_getElem? hr)
      obtain⟨bR,oR,cR,hcR,hclR,hixR⟩:=hO.row.fix row_ok (by decide) rfl hr
      obtain⟨ra1,rc1,na1,nc1,ecR,h32R,hrpl,hrpr,_,_⟩:=(id hcR)
      have hrn:hcell H3 ⟨bR,oR+0,none⟩=some (.string (mkS r.name)):=hclR 0 _ (by rw[ecR];rfl)
      have hrv: ∀ (k:Nat) (u:Value),([.int .i64 r.v.ma,.int .i64 r.v.mi,.int .i64 r.v.pa,.slice ra1 r.v.pre.length rc1]:List Value)[k]? =some u→hcell H3 ⟨bR,oR+1+k,none⟩=some u:=fun k u hu=>by rw[Nat.add_assoc,Nat.add_comm 1 k];exact hclR (k+1) u (row_ver ecR k u hu)
      have hfs0:(R.take (k+1)).filter (keepR p.name v)=(R.take k).filter (keepR p.name v)++if keepR p.name v r=true then [r]else []:=by
       rw[List.take_add_one,hr,List.filter_append]
       congr 1
       show List.filter (keepR p.name v) [r]=_
       simp only[List.filter_cons,List.filter_nil]
      obtain⟨M,hM⟩: ∃ M,(R.take k).filter (keepR p.name v)=M:=⟨_,rfl⟩
      rw[hM]at ho hfs0 hMs ⊢
      have e1:((mkS r.name).toList==(mkS p.name).toList)=decide (r.name=p.name):=str_mk _ _
      by_cases hnm:r.name=p.name
      ·rw[decide_eq_true hnm]at e1
       by_cases hcv:cmpV r.v v=0
       ·have hfs:(R.take (k+1)).filter (keepR p.name v)=M++[r]:=by rw[hfs0];unfold keepR;rw[if_pos hnm,decide_eq_true hcv];rfl
        ((conv=>whnf);repeat(any_goals((first|(refine hixR _ _ rfl ?_)|((with_reducible apply SemH.load_ver);(focus((exact hrv)));(focus((exact hx38.2.trans (by exact Vc.xt))));(focus((conv=>whnf))))|((with_reducible apply SemH.load_ver);(focus((exact hvv)));(focus((exact hx58.2.trans (by exact Vc.xt))));(focus((conv=>whnf))))|(refine hixV _ _ rfl ?_)|(refine hixP _ _ rfl ?_)|(show Go.Vc.CallH _ _ _ _ _;refine(rcmpv_any r.v v hrB hvB _ _ _ (verO_of hrpl (hrpr.ext (hx38.2.trans (by exact Vc.xt)))) (verO_of hvl (hvr.ext (hx58.2.trans (by exact Vc.xt))))).mono ?_;rintro _ H9 ⟨rfl,hx9⟩;have hz9:=hx9.size)|refine Vc.stp ?_)<;>(intros;(conv=>whnf)))))
        refine SemH.load_irow (H0:=H3) (b:=bR) (o:=oR) (c:=cR) (row_ok.len hcR) hclR (hx38.2.trans (by exact Vc.xt)) ?_
        ((conv=>whnf);repeat(any_goals((first|refine Vc.stp ?_)<;>(intros;(conv=>whnf)))))
        refine SemH.lit (vs:=[.agg cR.toArray]) rfl rfl rfl rfl rfl rfl (by show(Nat.beq cR.toArray.size 39&&true)=true;rw[List.size_toArray,row_ok.len hcR];rfl) ?_
        intro HL zL bL' xL
        have bL:=flat_row bL'
        have hmx:constE rowE H3 HL r cR:=hcR
        ((conv=>whnf);repeat(any_goals((first|refine Vc.stp ?_)<;>(intros;(conv=>whnf)))))
        have hx8L:Ext H8 HL:=by exact Vc.xt
        have hxL:Ext H7 HL:=hx8.trans hx8L
        have ho8:=ho.ext (const_ok row_ok H3).ok hx8L
        have hzL:=hxL.size
        refine NextH.appE (const_ok row_ok H3) rfl ⟨_,rfl,fun _ h=>by cases h⟩ rfl rfl rfl rfl (by decide) id ho8 rfl (Blk.row bL) (LstV.one hmx) rfl (by omega) (by omega) ?_
        intro aX cX HX hoX hwX hfX
        have hxX:Ext H7 HX:=ext_wr2 (n:=HL.size) hxL (fun p hp=>ho8.block p hp) hwX
        have hlX:(M++[r]).length=M.length+1:=by simp
        ((conv=>whnf);repeat(any_goals((first|refine Vc.stp ?_)<;>(intros;(conv=>whnf)))))
        exact⟨⟨k+1,aX,cX⟩,⟨rfl,by(show Value.slice _ _ _=Value.slice _ _ _;rw[hfs,hlX]),trivial⟩,⟨hkl,by(dsimp only;rw[hfs];exact hoX),hxX⟩,by show R.length-(k+1)<R.length-k;omega⟩
       ·have hfs:(R.take (k+1)).filter (keepR p.name v)=M:=by rw[hfs0];unfold keepR;rw[if_pos hnm,decide_eq_false hcv];simp
        ((conv=>whnf);repeat(any_goals((first|(refine hixR _ _ rfl ?_)|((with_reducible apply SemH.load_ver);(focus((exact hrv)));(focus((exact hx38.2.trans (by exact Vc.xt))));(focus((conv=>whnf))))|((with_reducible apply SemH.load_ver);(focus((exact hvv)));(focus((exact hx58.2.trans (by exact Vc.xt))));(focus((conv=>whnf))))|(refine hixV _ _ rfl ?_)|(refine hixP _ _ rfl ?_)|(show Go.Vc.CallH _ _ _ _ _;refine(rcmpv_any r.v v hrB hvB _ _ _ (verO_of hrpl (hrpr.ext (hx38.2.trans (by exact Vc.xt)))) (verO_of hvl (hvr.ext (hx58.2.trans (by exact Vc.xt))))).mono ?_;rintro _ H9 ⟨rfl,hx9⟩;have hz9:=hx9.size)|refine Vc.stp ?_)<;>(intros;(conv=>whnf)))))
        exact⟨⟨k+1,oa,oc⟩,⟨rfl,by(show Value.slice _ _ _=Value.slice _ _ _;rw[hfs]),trivial⟩,⟨hkl,by(dsimp only;rw[hfs];exact ho.ext (const_ok row_ok H3).ok hx9),hx8.trans hx9⟩,by show R.length-(k+1)<R.length-k;omega⟩
      ·rw[decide_eq_false hnm]at e1
       have hfs:(R.take (k+1)).filter (keepR p.name v)=M++[r]:=by rw[hfs0];unfold keepR;rw[if_neg hnm];rfl
       ·((conv=>whnf);repeat(any_goals((first|(refine hixR _ _ rfl ?_)|((with_reducible apply SemH.load_ver);(focus((exact hrv)));(focus((exact hx38.2.trans (by exact Vc.xt))));(focus((conv=>whnf))))|((with_reducible apply SemH.load_ver);(focus((exact hvv)));(focus((exact hx58.2.trans (by exact Vc.xt))));(focus((conv=>whnf))))|(refine hixV _ _ rfl ?_)|(refine hixP _ _ rfl ?_)|(show Go.Vc.CallH _ _ _ _ _;refine(rcmpv_any r.v v hrB hvB _ _ _ (verO_of hrpl (hrpr.ext (hx38.2.trans (by exact Vc.xt)))) (verO_of hvl (hvr.ext (hx58.2.trans (by exact Vc.xt))))).mono ?_;rintro _ H9 ⟨rfl,hx9⟩;have hz9:=hx9.size)|refine Vc.stp ?_)<;>(intros;(conv=>whnf)))))
        refine SemH.load_irow (H0:=H3) (b:=bR) (o:=oR) (c:=cR) (row_ok.len hcR) hclR (hx38.2.trans (by exact Vc.xt)) ?_
        ((conv=>whnf);repeat(any_goals((first|refine Vc.stp ?_)<;>(intros;(conv=>whnf)))))
        refine SemH.lit (vs:=[.agg cR.toArray]) rfl rfl rfl rfl rfl rfl (by show(Nat.beq cR.toArray.size 39&&true)=true;rw[List.size_toArray,row_ok.len hcR];rfl) ?_
        intro HL zL bL' xL
        have bL:=flat_row bL'
        have hmx:constE rowE H3 HL r cR:=hcR
        ((conv=>whnf);repeat(any_goals((first|refine Vc.stp ?_)<;>(intros;(conv=>whnf)))))
        have hx8L:Ext H8 HL:=by exact Vc.xt
        have hxL:Ext H7 HL:=hx8.trans hx8L
        have ho8:=ho.ext (const_ok row_ok H3).ok hx8L
        have hzL:=hxL.size
        refine NextH.appE (const_ok row_ok H3) rfl ⟨_,rfl,fun _ h=>by cases h⟩ rfl rfl rfl rfl (by decide) id ho8 rfl (Blk.row bL) (LstV.one hmx) rfl (by omega) (by omega) ?_
        intro aX cX HX hoX hwX hfX
        have hxX:Ext H7 HX:=ext_wr2 (n:=HL.size) hxL (fun p hp=>ho8.block p hp) hwX
        have hlX:(M++[r]).length=M.length+1:=by simp
        ((conv=>whnf);repeat(any_goals((first|refine Vc.stp ?_)<;>(intros;(conv=>whnf)))))
        exact⟨⟨k+1,aX,cX⟩,⟨rfl,by(show Value.slice _ _ _=Value.slice _ _ _;rw[hfs,hlX]),trivial⟩,⟨hkl,by(dsimp only;rw[hfs];exact hoX),hxX⟩,by show R.length-(k+1)<R.length-k;omega⟩
     ·obtain rfl:k=R.length:=by omega
      rw[List.take_length]at ho hMs ⊢
      have hMk:MadeOk (R.filter (keepR p.name v)):=made_sub hMok List.filter_sublist
      have hOM:RegO H8 (R.filter (keepR p.name v)) N oa oc na nc:=⟨hO.glb.ext hx38.2,hMk,by omega,hO.nlen,hO.nb,RowE.unconst row_ok hx38.2 ho.row,hO.need.ext need_ok hx38.2,hO.cap⟩
      ((conv=>whnf);repeat(any_goals((first|refine Vc.stp ?_)<;>(intros;(conv=>whnf)))))
      refine hOM.rsolve.mono ?_
      rintro _ H9 ⟨⟨o,hso,hsl⟩,hx9⟩
      have hz9:=hx9.size
      cases o with
      |none=>
       obtain rfl:=hso
       ((conv=>whnf);repeat(any_goals((first|refine Vc.stp ?_)<;>(intros;(conv=>whnf)))))
       exact⟨i+1,⟨rfl,trivial⟩,⟨hil,hx6.trans (hx7.trans (hx8.trans hx9))⟩,by omega⟩
      |some Q=>
       obtain⟨qa,qn,qc,rfl,rfl,hqc,hQ⟩:=hso
       cases Q with
       |nil=>
        ((conv=>whnf);repeat(any_goals((first|refine Vc.stp ?_)<;>(intros;(conv=>whnf)))))
        exact⟨i+1,⟨rfl,trivial⟩,⟨hil,hx6.trans (hx7.trans (hx8.trans hx9))⟩,by omega⟩
       |cons q Q=>
        have hQ1:(q::Q).length=Q.length+1:=rfl
        have hqne: ¬q.name=p.name:=fun e=>by
         obtain⟨r,hr,hrq⟩:=hsl.fit.row q List.mem_cons_self
         have hrf:=(List.mem_filter.1 hr).2
         have hrn:r.name=p.name:=by rw[←e,←hrq];rfl
         unfold keepR at hrf
         rw[if_pos hrn,decide_eq_true_eq]at hrf
         have hrv:q.v=v:=by rw[←hrq];exact(lin_ver.eq _ _).1 hrf
         exact first_best hMok.apart (fun r hr=>(List.mem_filter.1 hr).1) hsol hsl.fit e (by rw[hrv];omega)
        have e1:((mkS q.name).toList==(mkS p.name).toList)=false:=by rw[str_mk];exact decide_eq_false hqne
        obtain⟨bQ,oQ,cQ,hcQ,hclQ,hixQ⟩:=hQ.fix pin_ok (by decide) rfl (show(q::Q)[0]? =some q from rfl)
        obtain⟨qa1,qc1,ecQ,_,_,_⟩:=(id hcQ)
        have hqn:hcell H9 ⟨bQ,oQ+0,none⟩=some (.string (mkS q.name)):=hclQ 0 _ (by rw[ecQ];rfl)
        ((conv=>whnf);repeat(any_goals((first|(refine hixQ _ _ rfl ?_)|(refine hixP _ _ rfl ?_)|refine Vc.stp ?_)<;>(intros;(conv=>whnf)))))
        exact⟨i+1,⟨rfl,trivial⟩,⟨hil,hx6.trans (hx7.trans (hx8.trans hx9))⟩,by omega⟩
   ·((conv=>whnf);repeat(any_goals((first|refine Vc.stp ?_)<;>(intros;(conv=>whnf)))))
    exact⟨rfl,hx03.2.trans (hx4.trans hx46.2)⟩
  ·((conv=>whnf);repeat(any_goals((first|refine Vc.stp ?_)<;>(intros;(conv=>whnf)))))
   exact⟨rfl,hx03.2.trans hx4⟩
 ·((conv=>whnf);repeat(any_goals((first|((fail_if_success (have:=hx1));show Go.Vc.CallH _ _ _ _ _;refine(known15_any hg).mono ?_;rintro _ H1 ⟨rfl,hx1⟩;have hz1:=hx1.size)|((fail_if_success (have:=hlq));show Go.Vc.CallH _ _ _ _ _;refine(some_any L la ln lc H1 (hL.ext rin_ok hx1) hLn).mono ?_;have hlq:=hlt;rintro _ _ ⟨rfl,rfl⟩;rw[hlt])|refine Vc.stp ?_|refine Vc.spl ?_ ?_)<;>(intros;(conv=>whnf)))))
  all_goals exact⟨rfl,hx1⟩
end Go.Proofs.YtjdieklgoepdjaaGreatDoor
