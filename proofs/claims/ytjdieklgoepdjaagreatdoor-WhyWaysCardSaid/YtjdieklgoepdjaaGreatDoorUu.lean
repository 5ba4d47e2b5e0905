import Derived.Test.YtjdieklgoepdjaaGreatDoorKu
import Derived.Test.YtjdieklgoepdjaaGreatDoorKd
set_option linter.unusedVariables false
set_option linter.unusedSimpArgs false
set_option maxRecDepth 100000
/- WhyWays, walked. -/
namespace Go.Why
open Go.Scr Go.Tre Go.Slv
theorem any_snoc {α:Type} {l:List α} {p:α→Bool} {i:Nat} {x:α} (h:l[i]? =some x):(l.take (i+1)).any p=((l.take i).any p || p x):=by
 rw[List.take_add_one,h,List.any_append]
 simp
end Go.Why
namespace Go.Proofs.YtjdieklgoepdjaaGreatDoor
open Go Go.Vc Go.Scr Go.Slv
open Go.Why (pathF usersF needsP curN)
structure WyK where
 k:Nat
 a:Option Addr
 cap:Nat
structure WyJ where
 j:Nat
 b:Bool
structure WyP where
 j:Nat
 l:List NeedP
 a:Option Addr
 cap:Nat
set_option maxHeartbeats 8000000 in
theorem ways_any {H:Heap} (hg:Glb H) (L:List RowI) (la:Option Addr) (ln lc:Nat) (hL:RowE rinE H la L) (hLn:L.length=ln) (W:List Nat) (wa:Option Addr) (wn wc:Nat) (hW:Row H wa (intsV .u16 W)) (hWn:W.length=wn) (hW16: ∀ x∈W,x<65536):
  CallH Tryz.prog 5 [.slice la ln lc,.slice wa wn wc] H fun v H'=>v= .bool true∧Ext H H':=by
 refine Vc.CallH.body Tryz.func5 Tryz.call5 rfl (by decide+kernel) rfl ?_
 cases hlt:lightI L 12 with
 |false=>
  ((conv=>whnf);repeat(any_goals((first|((fail_if_success (have:=hx1));show Go.Vc.CallH _ _ _ _ _;refine(known16_any hg).mono ?_;rintro _ H1 ⟨rfl,hx1⟩;have hz1:=hx1.size)|((fail_if_success (have:=hlq));show Go.Vc.CallH _ _ _ _ _;refine(light_any L la ln lc 12 H1 (hL.ext rin_ok hx1) hLn (by decide)).mono ?_;have hlq:=hlt;rintro _ _ ⟨rfl,rfl⟩;rw[hlt])|refine Vc.stp ?_)<;>(intros;(conv=>whnf)))))
  exact⟨rfl,hx1⟩
 |true=>
 obtain⟨hl20,hl4⟩:=(lightI_iff L 12).1 hlt
 by_cases h6:wn≤4
 ·((conv=>whnf);repeat(any_goals((first|((fail_if_success (have:=hx1));show Go.Vc.CallH _ _ _ _ _;refine(known16_any hg).mono ?_;rintro _ H1 ⟨rfl,hx1⟩;have hz1:=hx1.size)|((fail_if_success (have:=hlq));show Go.Vc.CallH _ _ _ _ _;refine(light_any L la ln lc 12 H1 (hL.ext rin_ok hx1) hLn (by decide)).mono ?_;have hlq:=hlt;rintro _ _ ⟨rfl,rfl⟩;rw[hlt])|((fail_if_success (have:=hx2));show Go.Vc.CallH _ _ _ _ _;refine(reg_made (hg.ext hx1) hl4 (hL.ext rin_ok hx1) hLn (by omega)).mono ?_;rintro _ H2 ⟨⟨R,ra,rc,ga,gn,gc,st,rfl,hMok,hRln,hR,hRc⟩,hx2⟩;have hz2:=hx2.size)|((fail_if_success (have:=hx3));show Go.Vc.CallH _ _ _ _ _;refine(sneeds_any W hW16 wa wn wc H2 (hW.ext (hx1.trans hx2)) hWn (by omega)).mono ?_;rintro _ H3 ⟨⟨na,nc,rfl,hNo⟩,hx3⟩;have hz3:=hx3.size)|refine Vc.stp ?_)<;>(intros;(conv=>whnf)))))
  have hnl:=needsM_len W
  have hnb:=needs_b (L:=W)
  obtain⟨N,hN⟩: ∃ N,needsM W=N:=⟨_,rfl⟩
  rw[hN]at hNo hnl hnb ⊢
  have hO:RegO H3 R N ra rc na nc:=⟨hg.ext (hx1.trans (hx2.trans hx3)),hMok,hRln,by omega,hnb,hR.ext row_ok hx3,hNo.rowL.to fun _ _=>needT_E,hNo.cap_le⟩
  have hx03:=And.intro trivial (hx1.trans (hx2.trans hx3))
  clear hx1 hx2 hx3 hR hNo
  refine hO.rsolve.mono ?_
  rintro _ H4 ⟨⟨o,hso,hsol⟩,hx4⟩
  have hz4:=hx4.size
  have hx04:=And.intro trivial (hx03.2.trans hx4)
  cases o with
  |none=>
   obtain rfl:=hso
   ((conv=>whnf);repeat(any_goals((first|refine Vc.stp ?_)<;>(intros;(conv=>whnf)))))
   exact⟨rfl,hx04.2⟩
  |some P=>
  obtain⟨pa,pn,pc,rfl,hpl,hpc,hPE⟩:=hso
  subst hpl
  have hO4:=hO.ext hx4
  have hfit:=hsol.fit
  have hpB:=hO4.pinB hfit
  have hfew:=hO4.few hfit.sorted hfit.row
  have hRB:=made_bounds hMok
  clear hO hx4
  have hp:=fun k H' (x:Ext H4 H')=>(hO4.ext x).path (pc:=pc) hpB hfew (hPE.ext pin_ok x) k
  have hu:=fun k H' (x:Ext H4 H')=>(hO4.ext x).users (pc:=pc) hfit.sorted hpB hfew (hPE.ext pin_ok x) k
  ((conv=>whnf);repeat(any_goals((first|refine Vc.stp ?_)<;>(intros;(conv=>whnf)))))
  refine LoopH.intro (fun(i:Nat)=>[(11,.int .i64 i)]) (fun i H'=>i≤P.length∧And True (Ext H4 H')) (fun i=>P.length-i) 0 ⟨rfl,trivial⟩ ⟨Nat.zero_le _,trivial,Ext.refl _⟩ ?_
  rintro i H5 ⟨hi,hx5⟩
  have hz5:=hx5.2.size
  by_cases hil:i<P.length
  ·obtain⟨p,hpi⟩: ∃ p,P[i]? =some p:=⟨_,List.getElem?_eq_getElem hil⟩
   have hpm:=List.mem_of_getElem? hpi
   have hAne:=Go.Why.path_some hMok.apart hfit hpm
   have hUne:=Go.Why.users_some hMok.apart hfit hpm
   have hAl:=hO4.path_len (P:=P) p.name
   have hway:Go.Why.Way R N P (pathF R N P p.name)∧(pathF R N P p.name).getLast? =some p.name:=by
    rcases Go.Why.path_way (R:=R) (N:=N) (P:=P) (name:=p.name)with h|h
    ·exact absurd h hAne
    ·exact h
   have hp1:=hp p.name
   have hu1:=hu p.name
   obtain⟨A,hA⟩: ∃ A,pathF R N P p.name=A:=⟨_,rfl⟩
   obtain⟨U,hU⟩: ∃ U,usersF R N P p.name=U:=⟨_,rfl⟩
   rw[hA]at hAne hway hp1 hAl
   rw[hU]at hUne hu1
   obtain⟨hway,hlast⟩:=hway
   have hA0:0<A.length:=List.length_pos_iff.2 hAne
   have hU0:0<U.length:=List.length_pos_iff.2 hUne
   obtain⟨m,hm⟩: ∃ m,A.length=m+1:=⟨A.length-1,by omega⟩
   have hAm:A[m]? =some p.name:=by rw[List.getLast?_eq_getElem?,hm]at hlast;exact hlast
   obtain⟨bQ,oQ,cQ,hcQ,hclQ,hixQ⟩:=hPE.fix pin_ok (by decide) rfl hpi
   obtain⟨ya,yc,eQ,h32,hyl,hyr⟩:=id hcQ
   have hq0:hcell H4 ⟨bQ,oQ,none⟩=some (Value.string (mkS p.name)):=(by have:=hclQ 0 _ (by rw[eQ];rfl);exact this)
   have ep:((mkS p.name).toList != (mkS p.name).toList)=false:=by simp
   have hx45:=hx5.2
   ((conv=>whnf);repeat(any_goals((first|(refine hixQ _ _ rfl ?_)|(refine IdxA.strv hra rfl m p.name (by omega) hAm ?_;intro _ _ _ _ _)|((fail_if_success (have:=hxa));show Go.Vc.CallH _ _ _ _ _;refine(hp1 _ hx45).mono ?_;rintro _ Ha ⟨⟨aa,ca,rfl,hca,hra⟩,hxa⟩;have hza:=hxa.size)|((fail_if_success (have:=hxb));show Go.Vc.CallH _ _ _ _ _;refine(hu1 _ (hx45.trans (by exact Vc.xt))).mono ?_;rintro _ Hb ⟨⟨ab,cb,rfl,hrb,hcb⟩,hxb⟩;have hzb:=hxb.size)|refine Vc.stp ?_)<;>(intros;(conv=>whnf)))))
   have hxab:=And.intro trivial (hxa.trans hxb)
   have hra2:=hra.ext hxb
   have hHb:=hx45.trans hxab.2
   clear hp1 hu1 hra hrb hxa hxb hx45 hixQ hq0
   refine LoopH.intro (fun(x:WyK)=>[(14,.int .i64 x.k),(13,.slice x.a (curN R N P (A.take x.k)).length x.cap)]) (fun x H'=>x.k≤A.length∧RowE needE H' x.a (curN R N P (A.take x.k))∧(curN R N P (A.take x.k)).length≤1000∧And True (Ext Hb H')) (fun x=>A.length-x.k) ⟨0,na,nc⟩ ⟨rfl,rfl,trivial⟩ ⟨Nat.zero_le _,hO4.need.ext need_ok hHb,by show N.length≤1000;omega,trivial,Ext.refl _⟩ ?_
   rintro⟨k,l2,c2⟩ H6 ⟨hk,hl6,hll6,hx6⟩
   dsimp only at hk hl6 hll6 ⊢
   have hz6:=hx6.2.size
   have hx46:=And.intro trivial (hHb.trans hx6.2)
   by_cases hkl:k<A.length
   ·obtain⟨q,hq⟩: ∃ q,A[k]? =some q:=⟨_,List.getElem?_eq_getElem hkl⟩
    have hany:=Go.Why.curN_mem hway hq
    have hnext:=Go.Why.curN_snoc (R:=R) (N:=N) (P:=P) hq
    have hpin:=Go.Why.next_pin hMok.apart hfit (Go.Why.way_at hway k q hq)
    obtain⟨M,hM⟩: ∃ M,curN R N P (A.take k)=M:=⟨_,rfl⟩
    rw[hM]at hl6 hll6 hany ⊢
    have hra6:=hra2.ext hx6.2
    ((conv=>whnf);repeat(any_goals((first|refine Vc.stp ?_)<;>(intros;(conv=>whnf)))))
    refine LoopH.intro (fun(x:WyJ)=>[(16,.int .i64 x.j),(15,.bool x.b)]) (fun x H'=>H6=H'∧x.j≤M.length∧x.b=(M.take x.j).any fun n=>n.name==q) (fun x=>M.length-x.j) ⟨0,false⟩ ⟨rfl,rfl,trivial⟩ ⟨rfl,Nat.zero_le _,rfl⟩ ?_
    rintro⟨j,b⟩ _ ⟨rfl,hj,hb⟩
    dsimp only at hj hb ⊢
    by_cases hjl:j<M.length
    ·obtain⟨n,hn⟩: ∃ n,M[j]? =some n:=⟨_,List.getElem?_eq_getElem hjl⟩
     have hsn:=Go.Why.any_snoc (p:=fun n:NeedP=>n.name==q) hn
     rw[←hb]at hsn
     have e1:((mkS n.name).toList==(mkS q).toList)=(n.name==q):=by rw[toListS,toListS]
     cases b with
     |true=>
      ((conv=>whnf);repeat(any_goals((first|refine Vc.stp ?_)<;>(intros;(conv=>whnf)))))
      exact⟨⟨j+1,true⟩,⟨rfl,rfl,trivial⟩,⟨rfl,by show j+1≤M.length;omega,by dsimp only;rw[hsn];rfl⟩,by show M.length-(j+1)<M.length-j;omega⟩
     |false=>
      obtain⟨bN,oN,cN,hcN,hclN,hixN⟩:=hl6.fix need_ok (by decide) rfl hn
      obtain⟨sa,sc,ec,hsl2,hsr⟩:=id hcN
      have hn0:hcell H6 ⟨bN,oN,none⟩=some (Value.string (mkS n.name)):=(by have:=hclN 0 _ (by rw[ec];rfl);exact this)
      obtain⟨d,hd⟩: ∃ d,(n.name==q)=d:=⟨_,rfl⟩
      rw[hd]at e1
      have hsn:((M.take (j+1)).any fun n=>n.name==q)=d:=by rw[hsn,←hd];rfl
      ((conv=>whnf);repeat(any_goals((first|(refine hixN _ _ rfl ?_)|(refine IdxA.strv hra6 rfl k q rfl hq ?_;intro _ _ _ _ _)|refine Vc.stp ?_)<;>(intros;(conv=>whnf)))))
      exact⟨⟨j+1,d⟩,⟨rfl,by show Value.bool _=Value.bool _;rw[e1],trivial⟩,⟨rfl,by show j+1≤M.length;omega,hsn.symm⟩,by show M.length-(j+1)<M.length-j;omega⟩
    ·obtain rfl:j=M.length:=by omega
     rw[List.take_of_length_le (Nat.le_refl _),hany]at hb
     subst hb
     ((conv=>whnf);repeat(any_goals((first|refine Vc.stp ?_)<;>(intros;(conv=>whnf)))))
     refine LoopH.intro (fun(x:WyP)=>[(17,.int .i64 x.j),(13,.slice x.a x.l.length x.cap)]) (fun x H'=>x.j≤P.length∧x.l=(if(P.take x.j).any (fun s=>s.name==q)=true then needsP R P q else M)∧RowE needE H' x.a x.l∧x.l.length≤1000∧And True (Ext H6 H')) (fun x=>P.length-x.j) ⟨0,M,l2,c2⟩ ⟨rfl,rfl,trivial⟩ ⟨Nat.zero_le _,rfl,hl6,hll6,trivial,Ext.refl _⟩ ?_
     rintro⟨j,l3,a3,c3⟩ H7 ⟨hj,he3,hl7,hll7,hx7⟩
     dsimp only at hj he3 hl7 hll7 ⊢
     have hz7:=hx7.2.size
     have hx47:=hx46.2.trans hx7.2
     by_cases hjl:j<P.length
     ·obtain⟨s,hs⟩: ∃ s,P[j]? =some s:=⟨_,List.getElem?_eq_getElem hjl⟩
      have hsm:=List.mem_of_getElem? hs
      have hsn:=Go.Why.any_snoc (p:=fun s:PinP=>s.name==q) hs
      have hra7:=hra6.ext hx7.2
      have e1:((mkS s.name).toList==(mkS q).toList)=(s.name==q):=by rw[toListS,toListS]
      obtain⟨bP,oP,cP,hcP,hclP,hixP⟩:=hPE.fix pin_ok (by decide) rfl hs
      obtain⟨za,zc,eP,z32,hzl,hzr⟩:=id hcP
      have hn0:hcell H4 ⟨bP,oP,none⟩=some (Value.string (mkS s.name)):=(by have:=hclP 0 _ (by rw[eP];rfl);exact this)
      have hpv: ∀ (q:Nat) (u:Value),([.int .i64 s.v.ma,.int .i64 s.v.mi,.int .i64 s.v.pa,.slice za s.v.pre.length zc]:List Value)[q]? =some u→hcell H4 ⟨bP,oP+1+q,none⟩=some u:=fun q u hu=>by rw[Nat.add_assoc];exact hclP (1+q) u (pin_ver1 eP q u hu)
      by_cases hsq:s.name=q
      ·rw[show(s.name==q)=true by simp[hsq]]at hsn e1
       rw[Bool.or_true]at hsn
       obtain⟨r,hr,hrs⟩:=hfit.row s hsm
       obtain⟨ri,hri⟩:=List.getElem?_of_mem hr
       have hidx:=idx_of hMok.apart hri
       have hrn:r.name=s.name:=by rw[←hrs];rfl
       have hrv:r.v=s.v:=by rw[←hrs];rfl
       rw[hrn,hrv]at hidx
       have hnd:needsP R P q=r.needs:=by
        have h9:=Go.Why.needs_pin hMok.apart hfit.sorted hr (by rw[hrs];exact hsm)
        rw[hrn,hsq]at h9;exact h9
       have hrl:=hRB.needs r hr
       have hfd:=fun H' (k:Ext H4 H') y hy=>rfind_any R s.name s.v (hpB s hsm) (rows_ver hRB) ra R.length rc y H4 H' k hO4.row rfl (by omega) hy
       rw[hidx]at hfd
       ((conv=>whnf);repeat(any_goals((first|(first|(with_reducible refine Vc.DrawH.lin (id:=31) mixed ?_)|(with_reducible refine Vc.DrawL.split (es:=[]) 11 15 (by decide) (by decide) (by decide) ?_ ?_)|(with_reducible refine Vc.DrawL.held (es:=[(11,15)]) [0,1,2,3,4,5,6,7,8,9,10,11,12,13,14,15,16,17] [] (by decide+kernel) ?_)|(with_reducible refine Vc.DrawL.held (es:=[(15,11)]) [0,1,2,3,4,5,6,7,8,9,10,15,11,12,13,14,16,17] [(15,[5,10])] (by decide+kernel) ?_))|(refine hixP _ _ rfl ?_)|(refine IdxA.strv hra7 rfl k q rfl hq ?_;intro _ _ _ _ _)|((with_reducible apply SemH.load_ver);(focus((exact hpv)));(focus((exact hx47.trans (by exact Vc.xt))));(focus((conv=>whnf))))|(refine Vc.StillsH.load rfl rfl rfl rfl rfl rfl (by first|exact SemH.load_ver hpv (hx47.trans (by exact Vc.xt)) rfl|exact SemH.load_old rfl (by assumption) (hx47.trans (by exact Vc.xt)) rfl|exact SemH.load_old rfl (by assumption) (by exact Vc.xt) rfl) ?_)|((fail_if_success (have:=hx9));show Go.Vc.CallH _ _ _ _ _;refine(hfd _ (hx47.trans (by exact Vc.xt)) _ (verO_of hzl (hzr.ext (hx47.trans (by exact Vc.xt))))).mono ?_;rintro _ H9 ⟨⟨r',cr,hr',rfl,hcr⟩,hx9⟩;have hz9:=hx9.size;rw[hri]at hr';have e7:=Option.some.inj hr';subst e7;obtain⟨xa,xc,ma,mc,er,r32,hsl,hsr,hnl7,hnr7⟩:=(id hcr))|(rename_i Hl zl bl xl;first|(refine DoH.store_list (bl.ext hx9) rfl (by rw[row_ok.len hcr];rfl) (by rw[row_ok.len hcr];rfl) (row_ok.plain hcr) ?_;intro HA zA bA kA;have hxA:Ext H7 HA:=(xl.trans hx9).but kA (by omega);have hn4:hcell HA ⟨H7.size,0+38,none⟩=some (Value.slice ma r.needs.length mc):=blk_list bA 0 38 _ (by rw[Nat.zero_add];exact(row_last er (by rw[strV_length];exact r32)).2))|(refine DoH.store_list bl rfl (by rw[row_ok.len hcr];rfl) (by rw[row_ok.len hcr];rfl) (row_ok.plain hcr) ?_;intro HA zA bA kA;have hxA:Ext H7 HA:=(hx9.trans xl).but kA (by omega);have hn4:hcell HA ⟨H9.size,0+38,none⟩=some (Value.slice ma r.needs.length mc):=blk_list bA 0 38 _ (by rw[Nat.zero_add];exact(row_last er (by rw[strV_length];exact r32)).2)))|refine Vc.stp ?_)<;>(intros;(conv=>whnf)))))
       all_goals exact⟨⟨j+1,r.needs,ma,mc⟩,⟨rfl,rfl,trivial⟩,⟨by show j+1≤P.length;omega,by dsimp only;rw[if_pos hsn,hnd],hnr7.ext need_ok (hx47.trans hxA),hrl,trivial,hx7.2.trans hxA⟩,by show P.length-(j+1)<P.length-j;omega⟩
      ·rw[show(s.name==q)=false by simp[hsq]]at hsn e1
       rw[Bool.or_false]at hsn
       ((conv=>whnf);repeat(any_goals((first|(refine hixP _ _ rfl ?_)|(refine IdxA.strv hra7 rfl k q rfl hq ?_;intro _ _ _ _ _)|refine Vc.stp ?_)<;>(intros;(conv=>whnf)))))
       exact⟨⟨j+1,l3,a3,c3⟩,⟨rfl,rfl,trivial⟩,⟨by show j+1≤P.length;omega,by dsimp only;rw[hsn];exact he3,hl7,hll7,hx7⟩,by show P.length-(j+1)<P.length-j;omega⟩
     ·obtain rfl:j=P.length:=by omega
      have hpa:(P.take P.length).any (fun s=>s.name==q)=true:=by
       rw[List.take_of_length_le (Nat.le_refl _)]
       obtain⟨s,hs,e⟩:=hpin
       exact List.any_eq_true.2 ⟨s,hs,by simp[e]⟩
      rw[if_pos hpa]at he3
      rw[he3,←hnext]at hl7 hll7 ⊢
      ((conv=>whnf);repeat(any_goals((first|refine Vc.stp ?_)<;>(intros;(conv=>whnf)))))
      exact⟨⟨k+1,a3,c3⟩,⟨rfl,rfl,trivial⟩,⟨by show k+1≤A.length;omega,hl7,hll7,trivial,hx6.2.trans hx7.2⟩,by show A.length-(k+1)<A.length-k;omega⟩
   ·obtain rfl:k=A.length:=by omega
    ((conv=>whnf);repeat(any_goals((first|refine Vc.stp ?_)<;>(intros;(conv=>whnf)))))
    exact⟨i+1,⟨rfl,trivial⟩,⟨by omega,trivial,hx46.2⟩,by omega⟩
  ·obtain rfl:i=P.length:=by omega
   ((conv=>whnf);repeat(any_goals((first|refine Vc.stp ?_)<;>(intros;(conv=>whnf)))))
   exact⟨rfl,hx04.2.trans hx5.2⟩
 ·((conv=>whnf);repeat(any_goals((first|((fail_if_success (have:=hx1));show Go.Vc.CallH _ _ _ _ _;refine(known16_any hg).mono ?_;rintro _ H1 ⟨rfl,hx1⟩;have hz1:=hx1.size)|((fail_if_success (have:=hlq));show Go.Vc.CallH _ _ _ _ _;refine(light_any L la ln lc 12 H1 (hL.ext rin_ok hx1) hLn (by decide)).mono ?_;have hlq:=hlt;rintro _ _ ⟨rfl,rfl⟩;rw[hlt])|refine Vc.stp ?_|refine Vc.spl ?_ ?_)<;>(intros;(conv=>whnf)))))
  all_goals exact⟨rfl,hx1⟩
end Go.Proofs.YtjdieklgoepdjaaGreatDoor
