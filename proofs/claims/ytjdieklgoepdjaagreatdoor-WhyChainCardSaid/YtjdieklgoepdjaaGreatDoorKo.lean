import Derived.Test.YtjdieklgoepdjaaGreatDoorKk
import Derived.Test.YtjdieklgoepdjaaGreatDoorKc
import Derived.Test.YtjdieklgoepdjaaGreatDoorKp
set_option linter.unusedVariables false
set_option linter.unusedSimpArgs false
set_option maxRecDepth 100000
/- The reference: may pins still come to something. -/
namespace Go.Slv
open Go.Scr Go.Tre
theorem ask_nil (R:List RowP) (N:List NeedP):askP R N []=N:=by unfold askP;simp
theorem ask_take {R:List RowP} {N:List NeedP} {P:List PinP} {i ri:Nat} {p:PinP} {r:RowP} (hp:P[i]? =some p) (hi:idxR R p.name p.v=some ri) (hr:R[ri]? =some r):askP R N (P.take (i+1))=askP R N (P.take i)++r.needs:=by
 unfold askP
 rw[List.take_add_one,hp,List.flatMap_append,←List.append_assoc]
 congr 1
 show List.flatMap _ [p]=_
 simp only[List.flatMap_cons,List.flatMap_nil,List.append_nil,hi,needsR,hr]
def goodN (R:List RowP) (P:List PinP) (no:List Txt) (n:NeedP):Bool:=match P.find? fun p=>p.name==n.name with
 |some p=>hasP n.span p.v
 |none=> !decide (n.name∈no)&&(versF R n.name R.length).any (hasP n.span)
def openF (R:List RowP) (N:List NeedP) (P:List PinP) (no:List Txt):Bool:=(askP R N P).all (goodN R P no)
theorem openF_no {R:List RowP} (ha:Apart R) {N:List NeedP} {ks no:List Txt} {P:List PinP} (h:PinsOk R ks P) (hno: ∀ k∈no,k∈ks) (hf:openF R N P no=false):NoFit R N ks P:=by
 obtain⟨n,hn,hb⟩:=List.all_eq_false.1 hf
 refine open_none ha h hn ?_
 unfold goodN at hb
 split at hb
 ·rename_i p hp
  have h1:=List.find?_some hp
  exact .inl ⟨p,List.mem_of_find?_eq_some hp,by simpa using h1,by simpa using hb⟩
 ·rename_i hp
  refine .inr ⟨fun p hpm e=>by have:=List.find?_eq_none.1 hp p hpm;simp[e]at this,?_⟩
  by_cases hk:n.name∈no
  ·exact .inl (hno _ hk)
  ·refine .inr fun r hr e=> ?_
   rw[decide_eq_false hk]at hb
   simp only[Bool.not_false,Bool.true_and,List.any_eq_true,not_exists,not_and]at hb
   obtain⟨i,hi⟩:=List.getElem?_of_mem hr
   have:=hb r.v (by
    unfold versF
    exact List.mem_map.2 ⟨i,(cands_mem R n.name R.length i).2 ⟨(List.getElem?_eq_some_iff.1 hi).1,r,hi,e⟩,by unfold verAt;rw[hi]⟩)
   simpa using this
end Go.Slv
namespace Go.Proofs.YtjdieklgoepdjaaGreatDoor
open Go Go.Vc Go.Scr Go.Slv
structure OpS where
 i:Nat
 a:Option Addr
 cap:Nat
theorem nd_cells {s t x y:Value}: ∀ (k:Nat) (u:Value),([x,y]:List Value)[k]? =some u→[s,x,y,t][1+k]? =some u:=fun k u hu=>by
 match k,hu with
 |0,hu=>exact hu
 |1,hu=>exact hu
set_option maxHeartbeats 4000000 in
theorem ropen_any (R:List RowP) (ha:Apart R) (hRB:RowsB R) (N:List NeedP) (hNB: ∀ n∈N,SpnB n.span) (P:List PinP) (hs:SortP P) (hrow: ∀ p∈P,∃ r∈R,pinR r=p) (no:List Bs) (ra na pa oa:Option Addr) (rn rc nn nc pn pc on oc:Nat) (H:Heap)
  (hR:RowE rowE H ra R) (hN:RowE needE H na N) (hP:RowE pinE H pa P) (hO:Row H oa (strs no)) (hrn:R.length=rn) (hnn:N.length=nn) (hpn:P.length=pn) (hon:no.length=on) (hrl:rn≤10000) (hnl:nn≤10000) (hpl:pn≤900) (hol:on≤10000) (hnc:nn≤nc):
  CallH Tryz.prog 103 [.slice ra rn rc,.slice na nn nc,.slice pa pn pc,.slice oa on oc] H fun x H'=>x= .bool (openF R N P no)∧Ext H H':=by
 have hPv: ∀ p∈P,VerB p.v:=fun p hp=>by
  obtain⟨r,hr,rfl⟩:=hrow p hp
  exact rows_ver hRB r hr
 have ok:=const_ok need_ok H
 obtain⟨Z,hZ⟩: ∃ Z,openF R N P no=Z:=⟨_,rfl⟩
 rw[hZ]
 refine Vc.CallH.body Tryz.func103 Tryz.call103 rfl (by decide+kernel) rfl ?_
 ((conv=>whnf);repeat(any_goals((first|refine Vc.stp ?_)<;>(intros;(conv=>whnf)))))
 refine LoopH.intro (fun(x:OpS)=>[(10,.int .i64 x.i),(9,.slice x.a (askP R N (P.take x.i)).length x.cap)]) (fun x H'=>x.i≤pn∧RowE (constE needE H) H' x.a (askP R N (P.take x.i))∧(askP R N (P.take x.i)).length≤x.cap∧(askP R N (P.take x.i)).length≤nn+x.i*1000∧(∀ n∈askP R N (P.take x.i),SpnB n.span)∧Ext H H') (fun x=>pn-x.i) ⟨0,na,nc⟩ ⟨rfl,by show Value.slice _ _ _=Value.slice _ _ _;rw[List.take_zero,ask_nil,hnn],trivial⟩ ⟨Nat.zero_le _,by rw[List.take_zero,ask_nil];exact hN.const,by rw[List.take_zero,ask_nil];dsimp only;omega,by rw[List.take_zero,ask_nil];dsimp only;omega,by rw[List.take_zero,ask_nil];exact hNB,Ext.refl _⟩ ?_
 rintro⟨i,a,cap⟩ H1 ⟨hi,hA,hcap,hlen,hAB,hx1⟩
 dsimp only at hi hA hcap hlen hAB ⊢
 have hz1:=hx1.size
 by_cases hlt:i<pn
 ·obtain⟨p,hp⟩: ∃ p,P[i]? =some p:=⟨_,List.getElem?_eq_getElem (by omega)⟩
  have hpm:=List.mem_of_getElem? hp
  obtain⟨r,hr,hrp⟩:=hrow p hpm
  obtain⟨ri,hri⟩:=List.getElem?_of_mem hr
  have hidx:idxR R p.name p.v=some ri:=by rw[←hrp];exact idx_of ha hri
  have hpv:=hPv p hpm
  have hrow2:=fun H' (k:Ext H H') cp hcp=>rrow_any R p hpv (rows_ver hRB) ra rn rc cp H H' k hR hrn (by omega) hcp
  rw[hidx]at hrow2
  have hst:askP R N (P.take (i+1))=askP R N (P.take i)++r.needs:=ask_take hp hidx hri
  obtain⟨A,hAe⟩: ∃ A,askP R N (P.take i)=A:=⟨_,rfl⟩
  rw[hAe]at hst hA hcap hlen hAB ⊢
  have hrnl:=hRB.needs r hr
  have hAB2: ∀ n∈A++r.needs,SpnB n.span:=fun n hn=>by
   rcases List.mem_append.1 hn with h|h
   ·exact hAB n h
   ·exact hRB.span r hr n h
  obtain⟨M,hM⟩: ∃ M,r.needs.length=M:=⟨_,rfl⟩
  cases M with
  |zero=>
   ((conv=>whnf);repeat(any_goals((first|(refine IdxA.pin hP hpn i p rfl hp ?_;intro b1 o1 c1 pa1 pc1 hp1 hl1 hpl1 hpr1 hcl1 hn1 hv1)|((with_reducible apply SemH.load_pin);(exact hl1);(exact hcl1);(exact hx1.trans (by exact Vc.xt));(conv=>whnf))|(refine(hrow2 _ (hx1.trans (by exact Vc.xt)) _ hp1).mono ?_;rintro _ H2 ⟨⟨r2,cr,hr2,rfl,hcr⟩,hx2⟩;have hz2:=hx2.size;rw[hri]at hr2;have e7:=Option.some.inj hr2;subst e7)|(rename_i Hq zq bq xq;refine DoH.store_list bq rfl (by rw[row_ok.len hcr];rfl) (by rw[row_ok.len hcr];rfl) (row_ok.plain hcr) ?_;intro H3 z3 b3 k3;obtain⟨sa,sc,ma,mc,er,r32,hsl,hsr,hnl3,hnr3⟩:=(id hcr);have hn38:hcell H3 ⟨H2.size,0+38,none⟩=some (.slice ma r.needs.length mc):=blk_list b3 0 38 _ (by rw[Nat.zero_add];exact(row_last er (by rw[strV_length];exact r32)).2);rw[hM]at hn38;have hx13:Ext H1 H3:=by exact Vc.xt)|(refine BndH.nat A.length rfl (by omega) ?_)|refine Vc.stp ?_)<;>(intros;(conv=>whnf)))))
   refine NextH.app0 rfl ⟨_,rfl,fun _ h=>by cases h⟩ rfl (Nat.le_refl _) ?_
   ((conv=>whnf);repeat(any_goals((first|refine Vc.stp ?_)<;>(intros;(conv=>whnf)))))
   have hW:A++r.needs=A:=by rw[List.eq_nil_of_length_eq_zero hM,List.append_nil]
   rw[hW]at hst
   exact⟨⟨i+1,a,A.length⟩,⟨rfl,by show Value.slice _ _ _=Value.slice _ _ _;rw[hst],trivial⟩,⟨by show i+1≤pn;omega,by dsimp only;rw[hst];exact hA.ext ok.ok hx13,by dsimp only;rw[hst];exact Nat.le_refl _,by dsimp only;rw[hst];omega,by dsimp only;rw[hst];exact hAB,hx1.trans hx13⟩,by show pn-(i+1)<pn-i;omega⟩
  |succ m=>
   ((conv=>whnf);repeat(any_goals((first|(refine IdxA.pin hP hpn i p rfl hp ?_;intro b1 o1 c1 pa1 pc1 hp1 hl1 hpl1 hpr1 hcl1 hn1 hv1)|((with_reducible apply SemH.load_pin);(exact hl1);(exact hcl1);(exact hx1.trans (by exact Vc.xt));(conv=>whnf))|(refine(hrow2 _ (hx1.trans (by exact Vc.xt)) _ hp1).mono ?_;rintro _ H2 ⟨⟨r2,cr,hr2,rfl,hcr⟩,hx2⟩;have hz2:=hx2.size;rw[hri]at hr2;have e7:=Option.some.inj hr2;subst e7)|(rename_i Hq zq bq xq;refine DoH.store_list bq rfl (by rw[row_ok.len hcr];rfl) (by rw[row_ok.len hcr];rfl) (row_ok.plain hcr) ?_;intro H3 z3 b3 k3;obtain⟨sa,sc,ma,mc,er,r32,hsl,hsr,hnl3,hnr3⟩:=(id hcr);have hn38:hcell H3 ⟨H2.size,0+38,none⟩=some (.slice ma r.needs.length mc):=blk_list b3 0 38 _ (by rw[Nat.zero_add];exact(row_last er (by rw[strV_length];exact r32)).2);rw[hM]at hn38;have hx13:Ext H1 H3:=by exact Vc.xt)|(refine BndH.nat A.length rfl (by omega) ?_)|refine Vc.stp ?_)<;>(intros;(conv=>whnf)))))
   refine NextH.full1 ok.ok rfl ⟨_,rfl,fun _ h=>by cases h⟩ rfl rfl rfl rfl (by decide) (hA.ext ok.ok hx13) rfl (hnr3.const.ext ok.ok (hx1.trans hx13)) hM (by omega) (by omega) ?_
   intro c9 H9 ho9 hx9
   ((conv=>whnf);repeat(any_goals((first|refine Vc.stp ?_)<;>(intros;(conv=>whnf)))))
   have hcl9:=ho9.cap_le
   have hWl:(A++r.needs).length=A.length+(m+1):=by rw[List.length_append,hM]
   exact⟨⟨i+1,some ⟨H3.size,0,none⟩,c9⟩,⟨rfl,by show Value.slice _ _ _=Value.slice _ _ _;rw[hst,hWl],trivial⟩,⟨by show i+1≤pn;omega,by dsimp only;rw[hst];exact ho9.row,by dsimp only;rw[hst];exact hcl9,by dsimp only;rw[hst,hWl];omega,by dsimp only;rw[hst];exact hAB2,(hx1.trans hx13).trans hx9⟩,by show pn-(i+1)<pn-i;omega⟩
 ·obtain rfl:i=pn:=by omega
  rw[List.take_of_length_le (by omega)]at hA hcap hlen hAB ⊢
  have hZ2:(askP R N P).all (goodN R P no)=Z:=hZ
  obtain⟨A,hAe⟩: ∃ A,askP R N P=A:=⟨_,rfl⟩
  rw[hAe]at hA hcap hlen hAB hZ2 ⊢
  ((conv=>whnf);repeat(any_goals((first|refine Vc.stp ?_)<;>(intros;(conv=>whnf)))))
  refine LoopH.intro (fun(k:Nat)=>[(13,.int .i64 k)]) (fun k H'=>k≤A.length∧Z=(A.drop k).all (goodN R P no)∧Ext H1 H') (fun k=>A.length-k) 0 ⟨rfl,trivial⟩ ⟨Nat.zero_le _,hZ2.symm,Ext.refl _⟩ ?_
  rintro k H5 ⟨hk,hinv,hx5⟩
  have hz5:=hx5.size
  have hx05:=And.intro trivial (hx1.trans hx5)
  by_cases hkl:k<A.length
  ·obtain⟨n,hn⟩: ∃ n,A[k]? =some n:=⟨_,List.getElem?_eq_getElem hkl⟩
   have hd:A.drop k=n::A.drop (k+1):=by
    rw[List.drop_eq_getElem_cons hkl]
    rw[List.getElem?_eq_getElem hkl]at hn
    rw[Option.some.inj hn]
   rw[hd,List.all_cons]at hinv
   have hsp:=hAB n (List.mem_of_getElem? hn)
   have hpin:=fun H' (k:Ext H H')=>rpin_any P n.name pa i pc H H' k hP hpn (by omega)
   have hg:goodN R P no n=match findP P n.name with
    |some p=>hasP n.span p.v
    |none=> !decide (n.name∈no)&&(versF R n.name R.length).any (hasP n.span):=rfl
   cases hf:findP P n.name with
   |some p=>
    rw[hf]at hpin hg
    dsimp only at hg
    have hpv:=hPv p (List.mem_of_find?_eq_some hf)
    cases hh:hasP n.span p.v with
    |true=>
     ((conv=>whnf);repeat(any_goals((first|(refine IdxA.need (H0:=H) hA rfl k n rfl hn ?_;intro b o c hcN hcl hc0;obtain⟨na2,nc2,ec2,hnl2,hnr2⟩:=(id hcN);have hsc:=(fun k u hu=>by rw[Nat.add_assoc];exact hcl (1+k) u (by rw[ec2];exact(nd_cells k u hu)): ∀ (k:Nat) (u:Value),([.bool n.span.any,.slice na2 n.span.or_.length nc2]:List Value)[k]? =some u→hcell H1 ⟨b,o+1+k,none⟩=some u))|(refine(hpin _ (hx05.2.trans (by exact Vc.xt))).mono ?_;rintro _ H6 ⟨⟨cp,rfl,hcp⟩,hx6⟩;have hz6:=hx6.size)|(rename_i Hl zl bl xl;refine DoH.store_list bl rfl (by rw[pin_ok.len hcp];rfl) (by rw[pin_ok.len hcp];rfl) (pin_ok.plain hcp) ?_;intro H7 z7 b7 k7;obtain⟨qa,qc,ecp,h32,hql,hqr⟩:=(id hcp);have hcv:=fun k u hu=>blk_list b7 1 k u (pin_ver1 ecp k u hu))|((with_reducible apply SemH.load_spn);(exact hsc);(exact hx5.trans (by exact Vc.xt));(conv=>whnf))|((with_reducible apply SemH.load_ver);(exact hcv);(exact Ext.refl _);(conv=>whnf))|(refine(rhas_any n.span p.v hsp hpv na2 _ nc2 _ _ (hnr2.ext bnds_ok (hx05.2.trans (by exact Vc.xt))) rfl (verO_of hql (hqr.ext (hx05.2.trans (by exact Vc.xt))))).mono ?_;rintro _ H8 ⟨rfl,hx8⟩;have hz8:=hx8.size;rw[hh])|refine Vc.stp ?_)<;>(intros;(conv=>whnf)))))
     exact⟨k+1,⟨rfl,trivial⟩,⟨by omega,by rw[hinv,hg,hh,Bool.true_and],hx5.trans (by exact Vc.xt)⟩,by omega⟩
    |false=>
     ((conv=>whnf);repeat(any_goals((first|(refine IdxA.need (H0:=H) hA rfl k n rfl hn ?_;intro b o c hcN hcl hc0;obtain⟨na2,nc2,ec2,hnl2,hnr2⟩:=(id hcN);have hsc:=(fun k u hu=>by rw[Nat.add_assoc];exact hcl (1+k) u (by rw[ec2];exact(nd_cells k u hu)): ∀ (k:Nat) (u:Value),([.bool n.span.any,.slice na2 n.span.or_.length nc2]:List Value)[k]? =some u→hcell H1 ⟨b,o+1+k,none⟩=some u))|(refine(hpin _ (hx05.2.trans (by exact Vc.xt))).mono ?_;rintro _ H6 ⟨⟨cp,rfl,hcp⟩,hx6⟩;have hz6:=hx6.size)|(rename_i Hl zl bl xl;refine DoH.store_list bl rfl (by rw[pin_ok.len hcp];rfl) (by rw[pin_ok.len hcp];rfl) (pin_ok.plain hcp) ?_;intro H7 z7 b7 k7;obtain⟨qa,qc,ecp,h32,hql,hqr⟩:=(id hcp);have hcv:=fun k u hu=>blk_list b7 1 k u (pin_ver1 ecp k u hu))|((with_reducible apply SemH.load_spn);(exact hsc);(exact hx5.trans (by exact Vc.xt));(conv=>whnf))|((with_reducible apply SemH.load_ver);(exact hcv);(exact Ext.refl _);(conv=>whnf))|(refine(rhas_any n.span p.v hsp hpv na2 _ nc2 _ _ (hnr2.ext bnds_ok (hx05.2.trans (by exact Vc.xt))) rfl (verO_of hql (hqr.ext (hx05.2.trans (by exact Vc.xt))))).mono ?_;rintro _ H8 ⟨rfl,hx8⟩;have hz8:=hx8.size;rw[hh])|refine Vc.stp ?_)<;>(intros;(conv=>whnf)))))
     exact⟨by rw[hinv,hg,hh,Bool.false_and];rfl,hx05.2.trans (by exact Vc.xt)⟩
   |none=>
    rw[hf]at hpin hg
    dsimp only at hg
    by_cases hmem:n.name∈no
    ·rw[decide_eq_true hmem]at hg
     have hin2: ∀ H',Row H' oa (strs no)→CallH Tryz.prog 61 [.slice oa on oc,.string (mkS n.name)] H' fun x H''=>x= .bool true∧H'=H'':=fun H' h'=>(rin_any no n.name oa on oc H' h' hon (by omega)).mono fun x H'' ⟨e1,e2⟩=>⟨by rw[e1,decide_eq_true hmem],e2⟩
     ((conv=>whnf);repeat(any_goals((first|(refine IdxA.need (H0:=H) hA rfl k n rfl hn ?_;intro b o c hcN hcl hc0;obtain⟨na2,nc2,ec2,hnl2,hnr2⟩:=(id hcN);have hsc:=(fun k u hu=>by rw[Nat.add_assoc];exact hcl (1+k) u (by rw[ec2];exact(nd_cells k u hu)): ∀ (k:Nat) (u:Value),([.bool n.span.any,.slice na2 n.span.or_.length nc2]:List Value)[k]? =some u→hcell H1 ⟨b,o+1+k,none⟩=some u))|(refine(hpin _ (hx05.2.trans (by exact Vc.xt))).mono ?_;rintro _ H6 ⟨rfl,hx6⟩;have hz6:=hx6.size)|(rename_i Hl zl bl xl;refine DoH.store_all bl rfl (by kernel_rfl) (by kernel_rfl) (by decide) ?_;intro H7 z7 b7 k7;have hO7:=hO.ext (hx05.2.trans (show Ext H5 H7 by exact Vc.xt)))|(refine(hin2 _ hO7).mono ?_;rintro _ _ ⟨rfl,rfl⟩)|refine Vc.stp ?_)<;>(intros;(conv=>whnf)))))
     exact⟨by rw[hinv,hg];rfl,hx05.2.trans (by exact Vc.xt)⟩
    ·rw[decide_eq_false hmem]at hg
     have hin2: ∀ H',Row H' oa (strs no)→CallH Tryz.prog 61 [.slice oa on oc,.string (mkS n.name)] H' fun x H''=>x= .bool false∧H'=H'':=fun H' h'=>(rin_any no n.name oa on oc H' h' hon (by omega)).mono fun x H'' ⟨e1,e2⟩=>⟨by rw[e1,decide_eq_false hmem],e2⟩
     ((conv=>whnf);repeat(any_goals((first|(refine IdxA.need (H0:=H) hA rfl k n rfl hn ?_;intro b o c hcN hcl hc0;obtain⟨na2,nc2,ec2,hnl2,hnr2⟩:=(id hcN);have hsc:=(fun k u hu=>by rw[Nat.add_assoc];exact hcl (1+k) u (by rw[ec2];exact(nd_cells k u hu)): ∀ (k:Nat) (u:Value),([.bool n.span.any,.slice na2 n.span.or_.length nc2]:List Value)[k]? =some u→hcell H1 ⟨b,o+1+k,none⟩=some u))|(refine(hpin _ (hx05.2.trans (by exact Vc.xt))).mono ?_;rintro _ H6 ⟨rfl,hx6⟩;have hz6:=hx6.size)|(rename_i Hl zl bl xl;refine DoH.store_all bl rfl (by kernel_rfl) (by kernel_rfl) (by decide) ?_;intro H7 z7 b7 k7;have hO7:=hO.ext (hx05.2.trans (show Ext H5 H7 by exact Vc.xt)))|(refine(hin2 _ hO7).mono ?_;rintro _ _ ⟨rfl,rfl⟩)|(refine(rversions_any R ha n.name (rows_ver hRB) ra rn rc _ (hR.ext row_ok (hx05.2.trans (by exact Vc.xt))) hrn (by omega)).mono ?_;rintro _ H8 ⟨⟨va,vc,rfl,hvo⟩,hx8⟩;have hz8:=hx8.size)|refine Vc.stp ?_)<;>(intros;(conv=>whnf)))))
     rw[hrn]at hg
     have hVm:=fun v (h:v∈versF R n.name rn)=>versF_mem h
     have hVl:=versF_len R n.name rn
     obtain⟨V,hV⟩: ∃ V,versF R n.name rn=V:=⟨_,rfl⟩
     rw[hV]at hVm hVl hvo hg ⊢
     have hx18:Ext H1 H8:=hx5.trans (by exact Vc.xt)
     have hx08:=And.intro trivial (hx1.trans hx18)
     refine LoopH.intro (fun(j:Nat)=>[(18,.int .i64 j),(16,.bool ((V.take j).any (hasP n.span)))]) (fun j H'=>j≤V.length∧Ext H8 H') (fun j=>V.length-j) 0 ⟨rfl,by rfl,trivial⟩ ⟨Nat.zero_le _,Ext.refl _⟩ ?_
     rintro j H9 ⟨hj,hx9⟩
     have hz9:=hx9.size
     have hx09:=And.intro trivial (hx08.2.trans hx9)
     by_cases hjl:j<V.length
     ·obtain⟨v,hv⟩: ∃ v,V[j]? =some v:=⟨_,List.getElem?_eq_getElem hjl⟩
      have hvB:VerB v:=by
       obtain⟨_,s,_,h1,_,rfl⟩:=hVm v (List.mem_of_getElem? hv)
       exact rows_ver hRB s (List.mem_of_getElem? h1)
      have hsn:(V.take (j+1)).any (hasP n.span)=((V.take j).any (hasP n.span) || hasP n.span v):=by
       rw[List.take_add_one,hv,List.any_append]
       simp
      cases hb:(V.take j).any (hasP n.span)with
      |true=>
       rw[hb]at hsn
       ((conv=>whnf);repeat(any_goals((first|(refine IdxA.need (H0:=H) hA rfl k n rfl hn ?_;intro b o c hcN hcl hc0;obtain⟨na2,nc2,ec2,hnl2,hnr2⟩:=(id hcN);have hsc:=(fun k u hu=>by rw[Nat.add_assoc];exact hcl (1+k) u (by rw[ec2];exact(nd_cells k u hu)): ∀ (k:Nat) (u:Value),([.bool n.span.any,.slice na2 n.span.or_.length nc2]:List Value)[k]? =some u→hcell H1 ⟨b,o+1+k,none⟩=some u))|(refine IdxA.el ver_ok (by decide) (hvo.row.ext ver_ok hx9) rfl j v rfl hv ?_;intro b3 o3 c3 hcX hcx;obtain⟨xa,xc,ex,hxl,hxr⟩:=(id hcX);have hxv: ∀ (k:Nat) (u:Value),([.int .i64 v.ma,.int .i64 v.mi,.int .i64 v.pa,.slice xa v.pre.length xc]:List Value)[k]? =some u→hcell H9 ⟨b3,o3+k,none⟩=some u:=fun k u hu=>hcx k u (by rw[ex];exact hu))|((with_reducible apply SemH.load_spn);(exact hsc);(focus((exact hx18.trans (hx9.trans (by exact Vc.xt)))));(conv=>whnf))|((with_reducible apply SemH.load_ver);(exact hxv);(exact Ext.refl _);(conv=>whnf))|(refine(rhas_any n.span v hsp hvB na2 _ nc2 _ _ (hnr2.ext bnds_ok (hx09.2.trans (by exact Vc.xt))) rfl (verO_of hxl (hxr.ext (by exact Vc.xt)))).mono ?_;rintro _ H10 ⟨rfl,hx10⟩;have hz10:=hx10.size)|refine Vc.stp ?_)<;>(intros;(conv=>whnf)))))
       exact⟨j+1,⟨rfl,by show Value.bool _=Value.bool _;rw[hsn];rfl,trivial⟩,⟨by omega,hx9⟩,by omega⟩
      |false=>
       rw[hb]at hsn
       ((conv=>whnf);repeat(any_goals((first|(refine IdxA.need (H0:=H) hA rfl k n rfl hn ?_;intro b o c hcN hcl hc0;obtain⟨na2,nc2,ec2,hnl2,hnr2⟩:=(id hcN);have hsc:=(fun k u hu=>by rw[Nat.add_assoc];exact hcl (1+k) u (by rw[ec2];exact(nd_cells k u hu)): ∀ (k:Nat) (u:Value),([.bool n.span.any,.slice na2 n.span.or_.length nc2]:List Value)[k]? =some u→hcell H1 ⟨b,o+1+k,none⟩=some u))|(refine IdxA.el ver_ok (by decide) (hvo.row.ext ver_ok hx9) rfl j v rfl hv ?_;intro b3 o3 c3 hcX hcx;obtain⟨xa,xc,ex,hxl,hxr⟩:=(id hcX);have hxv: ∀ (k:Nat) (u:Value),([.int .i64 v.ma,.int .i64 v.mi,.int .i64 v.pa,.slice xa v.pre.length xc]:List Value)[k]? =some u→hcell H9 ⟨b3,o3+k,none⟩=some u:=fun k u hu=>hcx k u (by rw[ex];exact hu))|((with_reducible apply SemH.load_spn);(exact hsc);(focus((exact hx18.trans (hx9.trans (by exact Vc.xt)))));(conv=>whnf))|((with_reducible apply SemH.load_ver);(exact hxv);(exact Ext.refl _);(conv=>whnf))|(refine(rhas_any n.span v hsp hvB na2 _ nc2 _ _ (hnr2.ext bnds_ok (hx09.2.trans (by exact Vc.xt))) rfl (verO_of hxl (hxr.ext (by exact Vc.xt)))).mono ?_;rintro _ H10 ⟨rfl,hx10⟩;have hz10:=hx10.size)|refine Vc.stp ?_)<;>(intros;(conv=>whnf)))))
       exact⟨j+1,⟨rfl,by show Value.bool _=Value.bool _;rw[hsn];rfl,trivial⟩,⟨by omega,hx9.trans (by exact Vc.xt)⟩,by omega⟩
     ·rw[List.take_of_length_le (by omega)]
      cases hb:V.any (hasP n.span)with
      |true=>
       ((conv=>whnf);repeat(any_goals((first|refine Vc.stp ?_)<;>(intros;(conv=>whnf)))))
       exact⟨k+1,⟨rfl,trivial⟩,⟨by omega,by rw[hinv,hg,hb];rfl,hx18.trans hx9⟩,by omega⟩
      |false=>
       ((conv=>whnf);repeat(any_goals((first|refine Vc.stp ?_)<;>(intros;(conv=>whnf)))))
       exact⟨by rw[hinv,hg,hb];rfl,hx08.2.trans hx9⟩
  ·rw[List.drop_of_length_le (by omega)]at hinv
   ((conv=>whnf);repeat(any_goals((first|refine Vc.stp ?_)<;>(intros;(conv=>whnf)))))
   exact⟨by rw[hinv];rfl,hx05.2⟩
end Go.Proofs.YtjdieklgoepdjaaGreatDoor
namespace Go.Slv
open Go.Scr Go.Tre
def comeB (P:List PinP) (js:List Txt) (r:RowP):Bool:=(match P.find? fun p=>p.name==r.name with
 |some p=>decide (cmpV p.v r.v=0)
 |none=>false) || decide (r.name∈js)
def laterP (N:List NeedP) (P:List PinP) (js:List Txt) (R:List RowP):List NeedP:=N++R.flatMap fun r=>if comeB P js r then r.needs else []
theorem later_nil (N:List NeedP) (P:List PinP) (js:List Txt):laterP N P js []=N:=by unfold laterP;simp
theorem later_take {N:List NeedP} {P:List PinP} {js:List Txt} {R:List RowP} {i:Nat} {r:RowP} (hr:R[i]? =some r):laterP N P js (R.take (i+1))=laterP N P js (R.take i)++(if comeB P js r then r.needs else []):=by
 unfold laterP
 rw[List.take_add_one,hr,List.flatMap_append,←List.append_assoc]
 congr 1
 show List.flatMap _ [r]=_
 simp
def neededF (R:List RowP) (N:List NeedP) (P:List PinP) (js:List Txt):Bool:=P.all fun p=>(laterP N P js R).any fun n=>n.name==p.name
theorem needed_no {R:List RowP} (ha:Apart R) {N:List NeedP} {ks js:List Txt} {P:List PinP} (h:PinsOk R ks P) (hall: ∀ r∈R,r.name∈ks∨r.name∈js) (hf:neededF R N P js=false):NoFit R N ks P:=by
 obtain⟨p,hp,hb⟩:=List.all_eq_false.1 hf
 simp only[List.any_eq_true,not_exists,not_and,beq_iff_eq]at hb
 refine needed_none ha h hall hp (fun n hn=>hb n (List.mem_append_left _ hn)) fun r hr hc n hn=>hb n (List.mem_append_right _ (List.mem_flatMap.2 ⟨r,hr,?_⟩))
 have:comeB P js r=true:=by
  unfold comeB
  rcases hc with ⟨q,hq,e1,e2⟩|hc
  ·rw[←e1,find_sorted h.sorted hq]
   simp[e2,lin_ver.refl]
  ·rw[decide_eq_true hc,Bool.or_true]
 rw[if_pos this]
 exact hn
end Go.Slv
namespace Go.Proofs.YtjdieklgoepdjaaGreatDoor
open Go Go.Vc Go.Scr Go.Slv
set_option maxHeartbeats 4000000 in
theorem rneeded_any (R:List RowP) (hRB:RowsB R) (N:List NeedP) (P:List PinP) (hPv: ∀ p∈P,VerB p.v) (js:List Bs) (ra na pa oa:Option Addr) (rn rc nn nc pn pc on oc:Nat) (H:Heap)
  (hR:RowE rowE H ra R) (hN:RowE needE H na N) (hP:RowE pinE H pa P) (hO:Row H oa (strs js)) (hrn:R.length=rn) (hnn:N.length=nn) (hpn:P.length=pn) (hon:js.length=on) (hrl:rn≤900) (hnl:nn≤10000) (hpl:pn≤900) (hol:on≤10000) (hnc:nn≤nc):
  CallH Tryz.prog 104 [.slice ra rn rc,.slice na nn nc,.slice pa pn pc,.slice oa on oc] H fun x H'=>x= .bool (neededF R N P js)∧Ext H H':=by
 have ok:=const_ok need_ok H
 obtain⟨Z,hZ⟩: ∃ Z,neededF R N P js=Z:=⟨_,rfl⟩
 rw[hZ]
 refine Vc.CallH.body Tryz.func104 Tryz.call104 rfl (by decide+kernel) rfl ?_
 ((conv=>whnf);repeat(any_goals((first|refine Vc.stp ?_)<;>(intros;(conv=>whnf)))))
 refine LoopH.intro (fun(x:OpS)=>[(10,.int .i64 x.i),(9,.slice x.a (laterP N P js (R.take x.i)).length x.cap)]) (fun x H'=>x.i≤rn∧RowE (constE needE H) H' x.a (laterP N P js (R.take x.i))∧(laterP N P js (R.take x.i)).length≤x.cap∧(laterP N P js (R.take x.i)).length≤nn+x.i*1000∧Ext H H') (fun x=>rn-x.i) ⟨0,na,nc⟩ ⟨rfl,by show Value.slice _ _ _=Value.slice _ _ _;rw[List.take_zero,later_nil,hnn],trivial⟩ ⟨Nat.zero_le _,by rw[List.take_zero,later_nil];exact hN.const,by rw[List.take_zero,later_nil];dsimp only;omega,by rw[List.take_zero,later_nil];dsimp only;omega,Ext.refl _⟩ ?_
 rintro⟨i,a,cap⟩ H1 ⟨hi,hA,hcap,hlen,hx1⟩
 dsimp only at hi hA hcap hlen ⊢
 have hz1:=hx1.size
 by_cases hlt:i<rn
 ·obtain⟨r,hri⟩: ∃ r,R[i]? =some r:=⟨_,List.getElem?_eq_getElem (by omega)⟩
  have hr:=List.mem_of_getElem? hri
  have hrvb:=rows_ver hRB r hr
  have hpin:=fun H' (k:Ext H H')=>rpin_any P r.name pa pn pc H H' k hP hpn (by omega)
  have hst0:laterP N P js (R.take (i+1))=laterP N P js (R.take i)++(if comeB P js r then r.needs else []):=later_take hri
  have hcb:comeB P js r=((match findP P r.name with
   |some p=>decide (cmpV p.v r.v=0)
   |none=>false) || decide (r.name∈js)):=rfl
  obtain⟨A,hAe⟩: ∃ A,laterP N P js (R.take i)=A:=⟨_,rfl⟩
  rw[hAe]at hst0 hA hcap hlen ⊢
  have hrnl:=hRB.needs r hr
  obtain⟨M,hM⟩: ∃ M,r.needs.length=M:=⟨_,rfl⟩
  have hin2: ∀ H',Row H' oa (strs js)→CallH Tryz.prog 61 [.slice oa on oc,.string (mkS r.name)] H' fun x H''=>x= .bool (decide (r.name∈js))∧H'=H'':=fun H' h'=>rin_any js r.name oa on oc H' h' hon (by omega)
  have hst:comeB P js r=true→laterP N P js (R.take (i+1))=A++r.needs:=fun h=>by rw[hst0,if_pos h]
  have hstn:comeB P js r=false→laterP N P js (R.take (i+1))=A:=fun h=>by rw[hst0,h];simp
  cases hf:findP P r.name with
  |none=>
   rw[hf]at hpin hcb
   by_cases hmem:r.name∈js
   ·rw[decide_eq_true hmem]at hin2 hcb
    have hst:=hst hcb
    cases M with
    |zero=>
     have hW:A++r.needs=A:=by rw[List.eq_nil_of_length_eq_zero hM,List.append_nil]
     rw[hW]at hst
     ((conv=>whnf);repeat(any_goals((first|(refine IdxA.el row_ok (by decide) hR hrn i r rfl hri ?_;intro b o c hcR hcl;obtain⟨ya,yc,ma,mc,ec,h32,hyl,hyr,hnl2,hnr⟩:=(id hcR);have hcv:=(fun k u hu=>(by rw[Nat.add_assoc,Nat.add_comm 1 k];exact hcl (k+1) u (row_ver ec k u hu)): ∀ (k:Nat) (u:Value),([.int .i64 r.v.ma,.int .i64 r.v.mi,.int .i64 r.v.pa,.slice ya r.v.pre.length yc]:List Value)[k]? =some u→hcell H ⟨b,o+1+k,none⟩=some u);have hc0:hcell H ⟨b,o+0,none⟩=some (Value.string (mkS r.name)):=hcl 0 _ (by rw[ec];rfl);have hn38:hcell H ⟨b,o+38,none⟩=some (.slice ma r.needs.length mc):=hcl 38 _ (row_last ec (by rw[strV_length];exact h32)).2;rw[hM]at hn38)|((with_reducible apply SemH.load_ver);(exact hcv);(exact hx1.trans (by exact Vc.xt));(conv=>whnf))|(refine BndH.nat A.length rfl (by omega) ?_)|(refine(hpin _ (hx1.trans (by exact Vc.xt))).mono ?_;rintro _ H2 ⟨rfl,hx2⟩;have hz2:=hx2.size)|(rename_i Hl zl bl xl;refine DoH.store_all bl rfl (by kernel_rfl) (by kernel_rfl) (by decide) ?_;intro H4 z4 b4 k4;have hx14:Ext H1 H4:=(by exact Vc.xt);have hO4:=hO.ext (hx1.trans hx14))|(refine(hin2 _ hO4).mono ?_;rintro _ _ ⟨rfl,rfl⟩)|refine Vc.stp ?_)<;>(intros;(conv=>whnf)))))
     refine NextH.app0 rfl ⟨_,rfl,fun _ h=>by cases h⟩ rfl (Nat.le_refl _) ?_
     ((conv=>whnf);repeat(any_goals((first|refine Vc.stp ?_)<;>(intros;(conv=>whnf)))))
     exact⟨⟨i+1,a,A.length⟩,⟨rfl,by show Value.slice _ _ _=Value.slice _ _ _;rw[hst],trivial⟩,⟨by show i+1≤rn;omega,by dsimp only;rw[hst];exact hA.ext ok.ok hx14,by dsimp only;rw[hst];exact Nat.le_refl _,by dsimp only;rw[hst];omega,hx1.trans hx14⟩,by show rn-(i+1)<rn-i;omega⟩
    |succ m=>
     have hWl:(A++r.needs).length=A.length+(m+1):=by rw[List.length_append,hM]
     ((conv=>whnf);repeat(any_goals((first|(refine IdxA.el row_ok (by decide) hR hrn i r rfl hri ?_;intro b o c hcR hcl;obtain⟨ya,yc,ma,mc,ec,h32,hyl,hyr,hnl2,hnr⟩:=(id hcR);have hcv:=(fun k u hu=>(by rw[Nat.add_assoc,Nat.add_comm 1 k];exact hcl (k+1) u (row_ver ec k u hu)): ∀ (k:Nat) (u:Value),([.int .i64 r.v.ma,.int .i64 r.v.mi,.int .i64 r.v.pa,.slice ya r.v.pre.length yc]:List Value)[k]? =some u→hcell H ⟨b,o+1+k,none⟩=some u);have hc0:hcell H ⟨b,o+0,none⟩=some (Value.string (mkS r.name)):=hcl 0 _ (by rw[ec];rfl);have hn38:hcell H ⟨b,o+38,none⟩=some (.slice ma r.needs.length mc):=hcl 38 _ (row_last ec (by rw[strV_length];exact h32)).2;rw[hM]at hn38)|((with_reducible apply SemH.load_ver);(exact hcv);(exact hx1.trans (by exact Vc.xt));(conv=>whnf))|(refine BndH.nat A.length rfl (by omega) ?_)|(refine(hpin _ (hx1.trans (by exact Vc.xt))).mono ?_;rintro _ H2 ⟨rfl,hx2⟩;have hz2:=hx2.size)|(rename_i Hl zl bl xl;refine DoH.store_all bl rfl (by kernel_rfl) (by kernel_rfl) (by decide) ?_;intro H4 z4 b4 k4;have hx14:Ext H1 H4:=(by exact Vc.xt);have hO4:=hO.ext (hx1.trans hx14))|(refine(hin2 _ hO4).mono ?_;rintro _ _ ⟨rfl,rfl⟩)|refine Vc.stp ?_)<;>(intros;(conv=>whnf)))))
     refine NextH.full1 ok.ok rfl ⟨_,rfl,fun _ h=>by cases h⟩ rfl rfl rfl rfl (by decide) (hA.ext ok.ok hx14) rfl (hnr.const.ext ok.ok (hx1.trans hx14)) hM (by omega) (by omega) ?_
     intro c9 H9 ho9 hx9
     ((conv=>whnf);repeat(any_goals((first|refine Vc.stp ?_)<;>(intros;(conv=>whnf)))))
     exact⟨⟨i+1,some ⟨H4.size,0,none⟩,c9⟩,⟨rfl,by show Value.slice _ _ _=Value.slice _ _ _;rw[hst,hWl],trivial⟩,⟨by show i+1≤rn;omega,by dsimp only;rw[hst];exact ho9.row,by dsimp only;rw[hst];exact ho9.cap_le,by dsimp only;rw[hst,hWl];omega,(hx1.trans hx14).trans hx9⟩,by show rn-(i+1)<rn-i;omega⟩
   ·rw[decide_eq_false hmem]at hin2 hcb
    have hst:=hstn hcb
    ((conv=>whnf);repeat(any_goals((first|(refine IdxA.el row_ok (by decide) hR hrn i r rfl hri ?_;intro b o c hcR hcl;obtain⟨ya,yc,ma,mc,ec,h32,hyl,hyr,hnl2,hnr⟩:=(id hcR);have hcv:=(fun k u hu=>(by rw[Nat.add_assoc,Nat.add_comm 1 k];exact hcl (k+1) u (row_ver ec k u hu)): ∀ (k:Nat) (u:Value),([.int .i64 r.v.ma,.int .i64 r.v.mi,.int .i64 r.v.pa,.slice ya r.v.pre.length yc]:List Value)[k]? =some u→hcell H ⟨b,o+1+k,none⟩=some u);have hc0:hcell H ⟨b,o+0,none⟩=some (Value.string (mkS r.name)):=hcl 0 _ (by rw[ec];rfl);have hn38:hcell H ⟨b,o+38,none⟩=some (.slice ma r.needs.length mc):=hcl 38 _ (row_last ec (by rw[strV_length];exact h32)).2;rw[hM]at hn38)|((with_reducible apply SemH.load_ver);(exact hcv);(exact hx1.trans (by exact Vc.xt));(conv=>whnf))|(refine BndH.nat A.length rfl (by omega) ?_)|(refine(hpin _ (hx1.trans (by exact Vc.xt))).mono ?_;rintro _ H2 ⟨rfl,hx2⟩;have hz2:=hx2.size)|(rename_i Hl zl bl xl;refine DoH.store_all bl rfl (by kernel_rfl) (by kernel_rfl) (by decide) ?_;intro H4 z4 b4 k4;have hx14:Ext H1 H4:=(by exact Vc.xt);have hO4:=hO.ext (hx1.trans hx14))|(refine(hin2 _ hO4).mono ?_;rintro _ _ ⟨rfl,rfl⟩)|refine Vc.stp ?_)<;>(intros;(conv=>whnf)))))
    exact⟨⟨i+1,a,cap⟩,⟨rfl,by show Value.slice _ _ _=Value.slice _ _ _;rw[hst],trivial⟩,⟨by show i+1≤rn;omega,by dsimp only;rw[hst];exact hA.ext ok.ok hx14,by dsimp only;rw[hst];exact hcap,by dsimp only;rw[hst];omega,hx1.trans hx14⟩,by show rn-(i+1)<rn-i;omega⟩
  |some p=>
   rw[hf]at hpin hcb
   have hpvb:=hPv p (List.mem_of_find?_eq_some hf)
   by_cases hc:cmpV p.v r.v=0
   ·have hcb:comeB P js r=true:=by rw[hcb];dsimp only;rw[decide_eq_true hc];rfl
    have hst:=hst hcb
    cases M with
    |zero=>
     have hW:A++r.needs=A:=by rw[List.eq_nil_of_length_eq_zero hM,List.append_nil]
     rw[hW]at hst
     ((conv=>whnf);repeat(any_goals((first|(refine IdxA.el row_ok (by decide) hR hrn i r rfl hri ?_;intro b o c hcR hcl;obtain⟨ya,yc,ma,mc,ec,h32,hyl,hyr,hnl2,hnr⟩:=(id hcR);have hcv:=(fun k u hu=>(by rw[Nat.add_assoc,Nat.add_comm 1 k];exact hcl (k+1) u (row_ver ec k u hu)): ∀ (k:Nat) (u:Value),([.int .i64 r.v.ma,.int .i64 r.v.mi,.int .i64 r.v.pa,.slice ya r.v.pre.length yc]:List Value)[k]? =some u→hcell H ⟨b,o+1+k,none⟩=some u);have hc0:hcell H ⟨b,o+0,none⟩=some (Value.string (mkS r.name)):=hcl 0 _ (by rw[ec];rfl);have hn38:hcell H ⟨b,o+38,none⟩=some (.slice ma r.needs.length mc):=hcl 38 _ (row_last ec (by rw[strV_length];exact h32)).2;rw[hM]at hn38)|((with_reducible apply SemH.load_ver);(exact hcv);(exact hx1.trans (by exact Vc.xt));(conv=>whnf))|(refine BndH.nat A.length rfl (by omega) ?_)|(refine(hpin _ (hx1.trans (by exact Vc.xt))).mono ?_;rintro _ H2 ⟨⟨cp,rfl,hcp⟩,hx2⟩;have hz2:=hx2.size)|(rename_i Hl zl bl xl;refine DoH.store_list bl rfl (by rw[pin_ok.len hcp];rfl) (by rw[pin_ok.len hcp];rfl) (pin_ok.plain hcp) ?_;intro H3 z3 b3 k3;obtain⟨qa,qc,ecp,p32,hql,hqr⟩:=(id hcp);have hpv3:=fun k u hu=>blk_list b3 1 k u (pin_ver1 ecp k u hu))|((with_reducible apply SemH.load_ver);(exact hpv3);(exact Ext.refl _);(conv=>whnf))|(refine(rcmpv_any p.v r.v hpvb hrvb _ _ _ (verO_of hql (hqr.ext (hx1.trans (by exact Vc.xt)))) (verO_of hyl (hyr.ext (hx1.trans (by exact Vc.xt))))).mono ?_;rintro _ H4 ⟨rfl,hx4⟩;have hz4:=hx4.size;have hx14:Ext H1 H4:=(by exact Vc.xt);have hO4:=hO.ext (hx1.trans hx14))|(refine(hin2 _ hO4).mono ?_;rintro _ _ ⟨rfl,rfl⟩)|refine Vc.stp ?_)<;>(intros;(conv=>whnf)))))
     refine NextH.app0 rfl ⟨_,rfl,fun _ h=>by cases h⟩ rfl (Nat.le_refl _) ?_
     ((conv=>whnf);repeat(any_goals((first|refine Vc.stp ?_)<;>(intros;(conv=>whnf)))))
     exact⟨⟨i+1,a,A.length⟩,⟨rfl,by show Value.slice _ _ _=Value.slice _ _ _;rw[hst],trivial⟩,⟨by show i+1≤rn;omega,by dsimp only;rw[hst];exact hA.ext ok.ok hx14,by dsimp only;rw[hst];exact Nat.le_refl _,by dsimp only;rw[hst];omega,hx1.trans hx14⟩,by show rn-(i+1)<rn-i;omega⟩
    |succ m=>
     have hWl:(A++r.needs).length=A.length+(m+1):=by rw[List.length_append,hM]
     ((conv=>whnf);repeat(any_goals((first|(refine IdxA.el row_ok (by decide) hR hrn i r rfl hri ?_;intro b o c hcR hcl;obtain⟨ya,yc,ma,mc,ec,h32,hyl,hyr,hnl2,hnr⟩:=(id hcR);have hcv:=(fun k u hu=>(by rw[Nat.add_assoc,Nat.add_comm 1 k];exact hcl (k+1) u (row_ver ec k u hu)): ∀ (k:Nat) (u:Value),([.int .i64 r.v.ma,.int .i64 r.v.mi,.int .i64 r.v.pa,.slice ya r.v.pre.length yc]:List Value)[k]? =some u→hcell H ⟨b,o+1+k,none⟩=some u);have hc0:hcell H ⟨b,o+0,none⟩=some (Value.string (mkS r.name)):=hcl 0 _ (by rw[ec];rfl);have hn38:hcell H ⟨b,o+38,none⟩=some (.slice ma r.needs.length mc):=hcl 38 _ (row_last ec (by rw[strV_length];exact h32)).2;rw[hM]at hn38)|((with_reducible apply SemH.load_ver);(exact hcv);(exact hx1.trans (by exact Vc.xt));(conv=>whnf))|(refine BndH.nat A.length rfl (by omega) ?_)|(refine(hpin _ (hx1.trans (by exact Vc.xt))).mono ?_;rintro _ H2 ⟨⟨cp,rfl,hcp⟩,hx2⟩;have hz2:=hx2.size)|(rename_i Hl zl bl xl;refine DoH.store_list bl rfl (by rw[pin_ok.len hcp];rfl) (by rw[pin_ok.len hcp];rfl) (pin_ok.plain hcp) ?_;intro H3 z3 b3 k3;obtain⟨qa,qc,ecp,p32,hql,hqr⟩:=(id hcp);have hpv3:=fun k u hu=>blk_list b3 1 k u (pin_ver1 ecp k u hu))|((with_reducible apply SemH.load_ver);(exact hpv3);(exact Ext.refl _);(conv=>whnf))|(refine(rcmpv_any p.v r.v hpvb hrvb _ _ _ (verO_of hql (hqr.ext (hx1.trans (by exact Vc.xt)))) (verO_of hyl (hyr.ext (hx1.trans (by exact Vc.xt))))).mono ?_;rintro _ H4 ⟨rfl,hx4⟩;have hz4:=hx4.size;have hx14:Ext H1 H4:=(by exact Vc.xt);have hO4:=hO.ext (hx1.trans hx14))|(refine(hin2 _ hO4).mono ?_;rintro _ _ ⟨rfl,rfl⟩)|refine Vc.stp ?_)<;>(intros;(conv=>whnf)))))
     refine NextH.full1 ok.ok rfl ⟨_,rfl,fun _ h=>by cases h⟩ rfl rfl rfl rfl (by decide) (hA.ext ok.ok hx14) rfl (hnr.const.ext ok.ok (hx1.trans hx14)) hM (by omega) (by omega) ?_
     intro c9 H9 ho9 hx9
     ((conv=>whnf);repeat(any_goals((first|refine Vc.stp ?_)<;>(intros;(conv=>whnf)))))
     exact⟨⟨i+1,some ⟨H4.size,0,none⟩,c9⟩,⟨rfl,by show Value.slice _ _ _=Value.slice _ _ _;rw[hst,hWl],trivial⟩,⟨by show i+1≤rn;omega,by dsimp only;rw[hst];exact ho9.row,by dsimp only;rw[hst];exact ho9.cap_le,by dsimp only;rw[hst,hWl];omega,(hx1.trans hx14).trans hx9⟩,by show rn-(i+1)<rn-i;omega⟩
   ·by_cases hmem:r.name∈js
    ·rw[decide_eq_true hmem]at hin2
     have hst:=hst (by rw[hcb];dsimp only;rw[decide_eq_true hmem,Bool.or_true])
     cases M with
     |zero=>
      have hW:A++r.needs=A:=by rw[List.eq_nil_of_length_eq_zero hM,List.append_nil]
      rw[hW]at hst
      ((conv=>whnf);repeat(any_goals((first|(refine IdxA.el row_ok (by decide) hR hrn i r rfl hri ?_;intro b o c hcR hcl;obtain⟨ya,yc,ma,mc,ec,h32,hyl,hyr,hnl2,hnr⟩:=(id hcR);have hcv:=(fun k u hu=>(by rw[Nat.add_assoc,Nat.add_comm 1 k];exact hcl (k+1) u (row_ver ec k u hu)): ∀ (k:Nat) (u:Value),([.int .i64 r.v.ma,.int .i64 r.v.mi,.int .i64 r.v.pa,.slice ya r.v.pre.length yc]:List Value)[k]? =some u→hcell H ⟨b,o+1+k,none⟩=some u);have hc0:hcell H ⟨b,o+0,none⟩=some (Value.string (mkS r.name)):=hcl 0 _ (by rw[ec];rfl);have hn38:hcell H ⟨b,o+38,none⟩=some (.slice ma r.needs.length mc):=hcl 38 _ (row_last ec (by rw[strV_length];exact h32)).2;rw[hM]at hn38)|((with_reducible apply SemH.load_ver);(exact hcv);(exact hx1.trans (by exact Vc.xt));(conv=>whnf))|(refine BndH.nat A.length rfl (by omega) ?_)|(refine(hpin _ (hx1.trans (by exact Vc.xt))).mono ?_;rintro _ H2 ⟨⟨cp,rfl,hcp⟩,hx2⟩;have hz2:=hx2.size)|(rename_i Hl zl bl xl;refine DoH.store_list bl rfl (by rw[pin_ok.len hcp];rfl) (by rw[pin_ok.len hcp];rfl) (pin_ok.plain hcp) ?_;intro H3 z3 b3 k3;obtain⟨qa,qc,ecp,p32,hql,hqr⟩:=(id hcp);have hpv3:=fun k u hu=>blk_list b3 1 k u (pin_ver1 ecp k u hu))|((with_reducible apply SemH.load_ver);(exact hpv3);(exact Ext.refl _);(conv=>whnf))|(refine(rcmpv_any p.v r.v hpvb hrvb _ _ _ (verO_of hql (hqr.ext (hx1.trans (by exact Vc.xt)))) (verO_of hyl (hyr.ext (hx1.trans (by exact Vc.xt))))).mono ?_;rintro _ H4 ⟨rfl,hx4⟩;have hz4:=hx4.size;have hx14:Ext H1 H4:=(by exact Vc.xt);have hO4:=hO.ext (hx1.trans hx14))|(refine(hin2 _ hO4).mono ?_;rintro _ _ ⟨rfl,rfl⟩)|refine Vc.stp ?_)<;>(intros;(conv=>whnf)))))
      refine NextH.app0 rfl ⟨_,rfl,fun _ h=>by cases h⟩ rfl (Nat.le_refl _) ?_
      ((conv=>whnf);repeat(any_goals((first|refine Vc.stp ?_)<;>(intros;(conv=>whnf)))))
      exact⟨⟨i+1,a,A.length⟩,⟨rfl,by show Value.slice _ _ _=Value.slice _ _ _;rw[hst],trivial⟩,⟨by show i+1≤rn;omega,by dsimp only;rw[hst];exact hA.ext ok.ok hx14,by dsimp only;rw[hst];exact Nat.le_refl _,by dsimp only;rw[hst];omega,hx1.trans hx14⟩,by show rn-(i+1)<rn-i;omega⟩
     |succ m=>
      have hWl:(A++r.needs).length=A.length+(m+1):=by rw[List.length_append,hM]
      ((conv=>whnf);repeat(any_goals((first|(refine IdxA.el row_ok (by decide) hR hrn i r rfl hri ?_;intro b o c hcR hcl;obtain⟨ya,yc,ma,mc,ec,h32,hyl,hyr,hnl2,hnr⟩:=(id hcR);have hcv:=(fun k u hu=>(by rw[Nat.add_assoc,Nat.add_comm 1 k];exact hcl (k+1) u (row_ver ec k u hu)): ∀ (k:Nat) (u:Value),([.int .i64 r.v.ma,.int .i64 r.v.mi,.int .i64 r.v.pa,.slice ya r.v.pre.length yc]:List Value)[k]? =some u→hcell H ⟨b,o+1+k,none⟩=some u);have hc0:hcell H ⟨b,o+0,none⟩=some (Value.string (mkS r.name)):=hcl 0 _ (by rw[ec];rfl);have hn38:hcell H ⟨b,o+38,none⟩=some (.slice ma r.needs.length mc):=hcl 38 _ (row_last ec (by rw[strV_length];exact h32)).2;rw[hM]at hn38)|((with_reducible apply SemH.load_ver);(exact hcv);(exact hx1.trans (by exact Vc.xt));(conv=>whnf))|(refine BndH.nat A.length rfl (by omega) ?_)|(refine(hpin _ (hx1.trans (by exact Vc.xt))).mono ?_;rintro _ H2 ⟨⟨cp,rfl,hcp⟩,hx2⟩;have hz2:=hx2.size)|(rename_i Hl zl bl xl;refine DoH.store_list bl rfl (by rw[pin_ok.len hcp];rfl) (by rw[pin_ok.len hcp];rfl) (pin_ok.plain hcp) ?_;intro H3 z3 b3 k3;obtain⟨qa,qc,ecp,p32,hql,hqr⟩:=(id hcp);have hpv3:=fun k u hu=>blk_list b3 1 k u (pin_ver1 ecp k u hu))|((with_reducible apply SemH.load_ver);(exact hpv3);(exact Ext.refl _);(conv=>whnf))|(refine(rcmpv_any p.v r.v hpvb hrvb _ _ _ (verO_of hql (hqr.ext (hx1.trans (by exact Vc.xt)))) (verO_of hyl (hyr.ext (hx1.trans (by exact Vc.xt))))).mono ?_;rintro _ H4 ⟨rfl,hx4⟩;have hz4:=hx4.size;have hx14:Ext H1 H4:=(by exact Vc.xt);have hO4:=hO.ext (hx1.trans hx14))|(refine(hin2 _ hO4).mono ?_;rintro _ _ ⟨rfl,rfl⟩)|refine Vc.stp ?_)<;>(intros;(conv=>whnf)))))
      refine NextH.full1 ok.ok rfl ⟨_,rfl,fun _ h=>by cases h⟩ rfl rfl rfl rfl (by decide) (hA.ext ok.ok hx14) rfl (hnr.const.ext ok.ok (hx1.trans hx14)) hM (by omega) (by omega) ?_
      intro c9 H9 ho9 hx9
      ((conv=>whnf);repeat(any_goals((first|refine Vc.stp ?_)<;>(intros;(conv=>whnf)))))
      exact⟨⟨i+1,some ⟨H4.size,0,none⟩,c9⟩,⟨rfl,by show Value.slice _ _ _=Value.slice _ _ _;rw[hst,hWl],trivial⟩,⟨by show i+1≤rn;omega,by dsimp only;rw[hst];exact ho9.row,by dsimp only;rw[hst];exact ho9.cap_le,by dsimp only;rw[hst,hWl];omega,(hx1.trans hx14).trans hx9⟩,by show rn-(i+1)<rn-i;omega⟩
    ·rw[decide_eq_false hmem]at hin2
     have hst:=hstn (by rw[hcb];dsimp only;rw[decide_eq_false hmem,decide_eq_false hc];rfl)
     ((conv=>whnf);repeat(any_goals((first|(refine IdxA.el row_ok (by decide) hR hrn i r rfl hri ?_;intro b o c hcR hcl;obtain⟨ya,yc,ma,mc,ec,h32,hyl,hyr,hnl2,hnr⟩:=(id hcR);have hcv:=(fun k u hu=>(by rw[Nat.add_assoc,Nat.add_comm 1 k];exact hcl (k+1) u (row_ver ec k u hu)): ∀ (k:Nat) (u:Value),([.int .i64 r.v.ma,.int .i64 r.v.mi,.int .i64 r.v.pa,.slice ya r.v.pre.length yc]:List Value)[k]? =some u→hcell H ⟨b,o+1+k,none⟩=some u);have hc0:hcell H ⟨b,o+0,none⟩=some (Value.string (mkS r.name)):=hcl 0 _ (by rw[ec];rfl);have hn38:hcell H ⟨b,o+38,none⟩=some (.slice ma r.needs.length mc):=hcl 38 _ (row_last ec (by rw[strV_length];exact h32)).2;rw[hM]at hn38)|((with_reducible apply SemH.load_ver);(exact hcv);(exact hx1.trans (by exact Vc.xt));(conv=>whnf))|(refine BndH.nat A.length rfl (by omega) ?_)|(refine(hpin _ (hx1.trans (by exact Vc.xt))).mono ?_;rintro _ H2 ⟨⟨cp,rfl,hcp⟩,hx2⟩;have hz2:=hx2.size)|(rename_i Hl zl bl xl;refine DoH.store_list bl rfl (by rw[pin_ok.len hcp];rfl) (by rw[pin_ok.len hcp];rfl) (pin_ok.plain hcp) ?_;intro H3 z3 b3 k3;obtain⟨qa,qc,ecp,p32,hql,hqr⟩:=(id hcp);have hpv3:=fun k u hu=>blk_list b3 1 k u (pin_ver1 ecp k u hu))|((with_reducible apply SemH.load_ver);(exact hpv3);(exact Ext.refl _);(conv=>whnf))|(refine(rcmpv_any p.v r.v hpvb hrvb _ _ _ (verO_of hql (hqr.ext (hx1.trans (by exact Vc.xt)))) (verO_of hyl (hyr.ext (hx1.trans (by exact Vc.xt))))).mono ?_;rintro _ H4 ⟨rfl,hx4⟩;have hz4:=hx4.size;have hx14:Ext H1 H4:=(by exact Vc.xt);have hO4:=hO.ext (hx1.trans hx14))|(refine(hin2 _ hO4).mono ?_;rintro _ _ ⟨rfl,rfl⟩)|refine Vc.stp ?_)<;>(intros;(conv=>whnf)))))
     exact⟨⟨i+1,a,cap⟩,⟨rfl,by show Value.slice _ _ _=Value.slice _ _ _;rw[hst],trivial⟩,⟨by show i+1≤rn;omega,by dsimp only;rw[hst];exact hA.ext ok.ok hx14,by dsimp only;rw[hst];exact hcap,by dsimp only;rw[hst];omega,hx1.trans hx14⟩,by show rn-(i+1)<rn-i;omega⟩
 ·obtain rfl:i=rn:=by omega
  rw[List.take_of_length_le (by omega)]at hA hcap hlen ⊢
  have hZ2:(P.all fun p=>(laterP N P js R).any fun n=>n.name==p.name)=Z:=hZ
  obtain⟨A,hAe⟩: ∃ A,laterP N P js R=A:=⟨_,rfl⟩
  rw[hAe]at hA hcap hlen hZ2 ⊢
  have hlen9:A.length≤1000000:=by omega
  ((conv=>whnf);repeat(any_goals((first|refine Vc.stp ?_)<;>(intros;(conv=>whnf)))))
  refine LoopH.intro (fun(k:Nat)=>[(13,.int .i64 k)]) (fun k H'=>k≤pn∧Z=((P.drop k).all fun p=>A.any fun n=>n.name==p.name)∧Ext H1 H') (fun k=>pn-k) 0 ⟨rfl,trivial⟩ ⟨Nat.zero_le _,hZ2.symm,Ext.refl _⟩ ?_
  rintro k H5 ⟨hk,hinv,hx5⟩
  have hz5:=hx5.size
  have hx05:=And.intro trivial (hx1.trans hx5)
  by_cases hkl:k<pn
  ·obtain⟨p,hp⟩: ∃ p,P[k]? =some p:=⟨_,List.getElem?_eq_getElem (by omega)⟩
   have hd:P.drop k=p::P.drop (k+1):=by
    rw[List.drop_eq_getElem_cons (by omega)]
    rw[List.getElem?_eq_getElem (by omega)]at hp
    rw[Option.some.inj hp]
   rw[hd,List.all_cons]at hinv
   ((conv=>whnf);repeat(any_goals((first|refine Vc.stp ?_)<;>(intros;(conv=>whnf)))))
   refine LoopH.intro (fun(j:Nat)=>[(15,.int .i64 j),(14,.bool ((A.take j).any fun n=>n.name==p.name))]) (fun j H'=>j≤A.length∧Ext H5 H') (fun j=>A.length-j) 0 ⟨rfl,by rfl,trivial⟩ ⟨Nat.zero_le _,Ext.refl _⟩ ?_
   rintro j H9 ⟨hj,hx9⟩
   have hz9:=hx9.size
   have hx09:=And.intro trivial (hx05.2.trans hx9)
   by_cases hjl:j<A.length
   ·obtain⟨n,hn⟩: ∃ n,A[j]? =some n:=⟨_,List.getElem?_eq_getElem hjl⟩
    have hsn:((A.take (j+1)).any fun n=>n.name==p.name)=(((A.take j).any fun n=>n.name==p.name) || n.name==p.name):=by
     rw[List.take_add_one,hn,List.any_append]
     simp
    have e1:((mkS n.name).toList==(mkS p.name).toList)=(n.name==p.name):=by rw[str_mk,Bool.eq_iff_iff,decide_eq_true_eq,beq_iff_eq]
    cases hb:(A.take j).any fun n=>n.name==p.name with
    |true=>
     rw[hb]at hsn
     ((conv=>whnf);repeat(any_goals((first|refine Vc.stp ?_)<;>(intros;(conv=>whnf)))))
     exact⟨j+1,⟨rfl,by show Value.bool _=Value.bool _;rw[hsn];rfl,trivial⟩,⟨by omega,hx9⟩,by omega⟩
    |false=>
     rw[hb]at hsn
     ((conv=>whnf);repeat(any_goals((first|(refine IdxA.need (H0:=H) hA rfl j n rfl hn ?_;intro b o c hcN hcl hc0)|(refine IdxA.pin hP hpn k p rfl hp ?_;intro b1 o1 c1 pa1 pc1 hp1 hl1 hpl1 hpr1 hcl1 hn1 hv1)|rw[e1]|refine Vc.stp ?_)<;>(intros;(conv=>whnf)))))
     exact⟨j+1,⟨rfl,by show Value.bool _=Value.bool _;rw[hsn];rfl,trivial⟩,⟨by omega,hx9.trans (by exact Vc.xt)⟩,by omega⟩
   ·rw[List.take_of_length_le (by omega)]
    cases hb:A.any fun n=>n.name==p.name with
    |true=>
     ((conv=>whnf);repeat(any_goals((first|refine Vc.stp ?_)<;>(intros;(conv=>whnf)))))
     exact⟨k+1,⟨rfl,trivial⟩,⟨by omega,by rw[hinv,hb];rfl,hx5.trans hx9⟩,by omega⟩
    |false=>
     ((conv=>whnf);repeat(any_goals((first|refine Vc.stp ?_)<;>(intros;(conv=>whnf)))))
     exact⟨by rw[hinv,hb];rfl,hx05.2.trans hx9⟩
  ·rw[List.drop_of_length_le (by omega)]at hinv
   ((conv=>whnf);repeat(any_goals((first|refine Vc.stp ?_)<;>(intros;(conv=>whnf)))))
   exact⟨by rw[hinv];rfl,hx05.2⟩
def SrchR (R:List RowP) (N:List NeedP) (ks js:List Txt) (P:List PinP) (H:Heap) (x:Value):Prop:=∃ a n c,(∃ Q:List PinP,x= .tuple #[.slice a n c,.bool true]∧Q.length=n∧n≤c∧RowE pinE H a Q∧PinsOk R (ks++js) Q∧Go.Slv.Found R N ks js P (choP R Q))∨(x= .tuple #[.slice a n c,.bool false]∧NoFit R N ks P)
set_option maxHeartbeats 4000000 in
theorem rsearch_any (R:List RowP) (ha:Apart R) (hRB:RowsB R) (N:List NeedP) (hNB: ∀ n∈N,SpnB n.span) (L:List Bs) (hL:SortT L) (hLm: ∀ r∈R,r.name∈L) (ra na ta:Option Addr) (rn rc nn nc tn tc:Nat) (hrn:R.length=rn) (hnn:N.length=nn) (htn:L.length=tn) (hrl:rn≤900) (hnl:nn≤10000) (htl:tn≤900) (hnc:nn≤nc) (htc:tn≤tc):
  ∀ (m:Nat) (ks js:List Bs) (P:List PinP) (no:List Bs) (pa oa:Option Addr) (pn pc on oc k:Nat) (H:Heap),js.length=m→L=ks++js→ks.length=k→PinsOk R ks P→(∀ x∈no,x∈ks)→no.length≤ks.length→P.length≤ks.length→P.length=pn→no.length=on→pn≤pc→on≤oc→RowE rowE H ra R→RowE needE H na N→RowE strE H ta L→RowE pinE H pa P→RowE strE H oa no→
  CallH Tryz.prog 51 [.slice ra rn rc,.slice na nn nc,.slice ta tn tc,.int .i64 k,.slice pa pn pc,.slice oa on oc] H fun x H'=>SrchR R N ks js P H' x∧Ext H H':=by
 intro m
 induction m with
 |zero=>
  intro ks js P no pa oa pn pc on oc k H hm hLe hk hPk hno hnol hPl hpn hon hpc hoc hR hN hT hP hO
  have hlen:L.length=ks.length+js.length:=by rw[hLe,List.length_append]
  have hrow: ∀ p∈P,∃ r∈R,pinR r=p:=fun p hp=>(hPk.row p hp).2
  have hPv: ∀ p∈P,VerB p.v:=fun p hp=>by
   obtain⟨r,hr,rfl⟩:=hrow p hp
   exact rows_ver hRB r hr
  have hall: ∀ r∈R,r.name∈ks∨r.name∈js:=fun r hr=>List.mem_append.1 (by rw[←hLe];exact hLm r hr)
  have hJ:=hT.drop str_ok.ok tc k (fun e=>by omega)
  have hJe:L.drop k=js:=by rw[hLe,←hk,List.drop_left]
  rw[hJe]at hJ
  have hjl:js.length=tn-k:=by omega
  refine Vc.CallH.body Tryz.func51 Tryz.call51 rfl (by decide+kernel) rfl ?_
  cases ho:openF R N P no with
  |false=>
   have hnf:=openF_no ha hPk hno ho
   ((conv=>whnf);repeat(any_goals((first|(refine(ropen_any R ha hRB N hNB P hPk.sorted hrow no ra na pa oa rn rc nn nc pn pc on oc _ hR hN hP hO.strs hrn hnn hpn hon (by omega) hnl (by omega) (by omega) hnc).mono ?_;rintro _ H1 ⟨rfl,hx1⟩;have hz1:=hx1.size;rw[ho])|(refine(rneeded_any R hRB N P hPv _ ra na pa _ rn rc nn nc pn pc _ _ _ (hR.ext row_ok hx1) (hN.ext need_ok hx1) (hP.ext pin_ok hx1) (hJ.ext str_ok.ok hx1).strs hrn hnn hpn hjl hrl hnl (by omega) (by omega) hnc).mono ?_;rintro _ H2 ⟨rfl,hx2⟩;have hz2:=hx2.size;rw[hne])|(refine BndH.nat k rfl (by omega) ?_)|(first|(with_reducible refine Vc.DrawH.lin (id:=9) mixed ?_)|(with_reducible refine Vc.DrawL.split (es:=[]) 9 13 (by decide) (by decide) (by decide) ?_ ?_)|(with_reducible refine Vc.DrawL.held (es:=[(9,13)]) [0,1,2,3,4,5,6,7,8,9,10,11,12,13,14,15] [] (by decide+kernel) ?_)|(with_reducible refine Vc.DrawL.held (es:=[(13,9)]) [0,1,2,3,4,5,6,7,8,13,9,10,11,12,14,15] [(13,[4,8])] (by decide+kernel) ?_))|refine Vc.stp ?_)<;>(intros;(conv=>whnf)))))
   exact⟨⟨none,0,0,.inr ⟨rfl,hnf⟩⟩,by exact Vc.xt⟩
  |true=>
  cases hne:neededF R N P js with
  |false=>
   have hnf:=needed_no ha hPk hall hne
   ((conv=>whnf);repeat(any_goals((first|(refine(ropen_any R ha hRB N hNB P hPk.sorted hrow no ra na pa oa rn rc nn nc pn pc on oc _ hR hN hP hO.strs hrn hnn hpn hon (by omega) hnl (by omega) (by omega) hnc).mono ?_;rintro _ H1 ⟨rfl,hx1⟩;have hz1:=hx1.size;rw[ho])|(refine(rneeded_any R hRB N P hPv _ ra na pa _ rn rc nn nc pn pc _ _ _ (hR.ext row_ok hx1) (hN.ext need_ok hx1) (hP.ext pin_ok hx1) (hJ.ext str_ok.ok hx1).strs hrn hnn hpn hjl hrl hnl (by omega) (by omega) hnc).mono ?_;rintro _ H2 ⟨rfl,hx2⟩;have hz2:=hx2.size;rw[hne])|(refine BndH.nat k rfl (by omega) ?_)|(first|(with_reducible refine Vc.DrawH.lin (id:=9) mixed ?_)|(with_reducible refine Vc.DrawL.split (es:=[]) 9 13 (by decide) (by decide) (by decide) ?_ ?_)|(with_reducible refine Vc.DrawL.held (es:=[(9,13)]) [0,1,2,3,4,5,6,7,8,9,10,11,12,13,14,15] [] (by decide+kernel) ?_)|(with_reducible refine Vc.DrawL.held (es:=[(13,9)]) [0,1,2,3,4,5,6,7,8,13,9,10,11,12,14,15] [(13,[4,8])] (by decide+kernel) ?_))|refine Vc.stp ?_)<;>(intros;(conv=>whnf)))))
   exact⟨⟨none,0,0,.inr ⟨rfl,hnf⟩⟩,by exact Vc.xt⟩
  |true=>
  obtain rfl:js=[]:=List.eq_nil_of_length_eq_zero hm
  rw[List.append_nil]at hLe
  have hktn:k=tn:=by rw[←hk,←htn,hLe]
  have hin: ∀ r∈R,r.name∈ks:=fun r hr=>by rw[←hLe];exact hLm r hr
  ((conv=>whnf);repeat(any_goals((first|(refine(ropen_any R ha hRB N hNB P hPk.sorted hrow no ra na pa oa rn rc nn nc pn pc on oc _ hR hN hP hO.strs hrn hnn hpn hon (by omega) hnl (by omega) (by omega) hnc).mono ?_;rintro _ H1 ⟨rfl,hx1⟩;have hz1:=hx1.size;rw[ho])|(refine(rneeded_any R hRB N P hPv _ ra na pa _ rn rc nn nc pn pc _ _ _ (hR.ext row_ok hx1) (hN.ext need_ok hx1) (hP.ext pin_ok hx1) (hJ.ext str_ok.ok hx1).strs hrn hnn hpn hjl hrl hnl (by omega) (by omega) hnc).mono ?_;rintro _ H2 ⟨rfl,hx2⟩;have hz2:=hx2.size;rw[hne])|(refine BndH.nat k rfl (by omega) ?_)|(refine(rfits_any R ha hRB N hNB P hPk.sorted hrow ra na pa rn rc nn nc pn pc _ (hR.ext row_ok (hx1.trans hx2)) (hN.ext need_ok (hx1.trans hx2)) (hP.ext pin_ok (hx1.trans hx2)) hrn hnn hpn (by omega) hnl (by omega) hnc).mono ?_;rintro _ H3 ⟨⟨bf,rfl,hbf⟩,hx3⟩;have hz3:=hx3.size)|(first|(with_reducible refine Vc.DrawH.lin (id:=9) mixed ?_)|(with_reducible refine Vc.DrawL.split (es:=[]) 9 13 (by decide) (by decide) (by decide) ?_ ?_)|(with_reducible refine Vc.DrawL.held (es:=[(9,13)]) [0,1,2,3,4,5,6,7,8,9,10,11,12,13,14,15] [] (by decide+kernel) ?_)|(with_reducible refine Vc.DrawL.held (es:=[(13,9)]) [0,1,2,3,4,5,6,7,8,13,9,10,11,12,14,15] [(13,[4,8])] (by decide+kernel) ?_))|refine Vc.stp ?_)<;>(intros;(conv=>whnf)))))
  cases bf with
  |true=>exact⟨⟨pa,pn,pc,.inl ⟨P,rfl,hpn,hpc,hP.ext pin_ok (hx1.trans (hx2.trans hx3)),by(rw[List.append_nil];exact hPk),found_end ((pins_fits ha hPk).1 (hbf.1 rfl))⟩⟩,hx1.trans (hx2.trans hx3)⟩
  |false=>exact⟨⟨pa,pn,pc,.inr ⟨rfl,nofit_end hin fun hs=>by have:=hbf.2 ((pins_fits ha hPk).2 hs);cases this⟩⟩,hx1.trans (hx2.trans hx3)⟩
 |succ m ih=>
  intro ks js P no pa oa pn pc on oc k H hm hLe hk hPk hno hnol hPl hpn hon hpc hoc hR hN hT hP hO
  have hlen:L.length=ks.length+js.length:=by rw[hLe,List.length_append]
  have hrow: ∀ p∈P,∃ r∈R,pinR r=p:=fun p hp=>(hPk.row p hp).2
  have hPv: ∀ p∈P,VerB p.v:=fun p hp=>by
   obtain⟨r,hr,rfl⟩:=hrow p hp
   exact rows_ver hRB r hr
  have hall: ∀ r∈R,r.name∈ks∨r.name∈js:=fun r hr=>List.mem_append.1 (by rw[←hLe];exact hLm r hr)
  have hJ:=hT.drop str_ok.ok tc k (fun e=>by omega)
  have hJe:L.drop k=js:=by rw[hLe,←hk,List.drop_left]
  rw[hJe]at hJ
  have hjl:js.length=tn-k:=by omega
  refine Vc.CallH.body Tryz.func51 Tryz.call51 rfl (by decide+kernel) rfl ?_
  cases ho:openF R N P no with
  |false=>
   have hnf:=openF_no ha hPk hno ho
   ((conv=>whnf);repeat(any_goals((first|(refine(ropen_any R ha hRB N hNB P hPk.sorted hrow no ra na pa oa rn rc nn nc pn pc on oc _ hR hN hP hO.strs hrn hnn hpn hon (by omega) hnl (by omega) (by omega) hnc).mono ?_;rintro _ H1 ⟨rfl,hx1⟩;have hz1:=hx1.size;rw[ho])|(refine(rneeded_any R hRB N P hPv _ ra na pa _ rn rc nn nc pn pc _ _ _ (hR.ext row_ok hx1) (hN.ext need_ok hx1) (hP.ext pin_ok hx1) (hJ.ext str_ok.ok hx1).strs hrn hnn hpn hjl hrl hnl (by omega) (by omega) hnc).mono ?_;rintro _ H2 ⟨rfl,hx2⟩;have hz2:=hx2.size;rw[hne])|(refine BndH.nat k rfl (by omega) ?_)|(first|(with_reducible refine Vc.DrawH.lin (id:=9) mixed ?_)|(with_reducible refine Vc.DrawL.split (es:=[]) 9 13 (by decide) (by decide) (by decide) ?_ ?_)|(with_reducible refine Vc.DrawL.held (es:=[(9,13)]) [0,1,2,3,4,5,6,7,8,9,10,11,12,13,14,15] [] (by decide+kernel) ?_)|(with_reducible refine Vc.DrawL.held (es:=[(13,9)]) [0,1,2,3,4,5,6,7,8,13,9,10,11,12,14,15] [(13,[4,8])] (by decide+kernel) ?_))|refine Vc.stp ?_)<;>(intros;(conv=>whnf)))))
   exact⟨⟨none,0,0,.inr ⟨rfl,hnf⟩⟩,by exact Vc.xt⟩
  |true=>
  cases hne:neededF R N P js with
  |false=>
   have hnf:=needed_no ha hPk hall hne
   ((conv=>whnf);repeat(any_goals((first|(refine(ropen_any R ha hRB N hNB P hPk.sorted hrow no ra na pa oa rn rc nn nc pn pc on oc _ hR hN hP hO.strs hrn hnn hpn hon (by omega) hnl (by omega) (by omega) hnc).mono ?_;rintro _ H1 ⟨rfl,hx1⟩;have hz1:=hx1.size;rw[ho])|(refine(rneeded_any R hRB N P hPv _ ra na pa _ rn rc nn nc pn pc _ _ _ (hR.ext row_ok hx1) (hN.ext need_ok hx1) (hP.ext pin_ok hx1) (hJ.ext str_ok.ok hx1).strs hrn hnn hpn hjl hrl hnl (by omega) (by omega) hnc).mono ?_;rintro _ H2 ⟨rfl,hx2⟩;have hz2:=hx2.size;rw[hne])|(refine BndH.nat k rfl (by omega) ?_)|(first|(with_reducible refine Vc.DrawH.lin (id:=9) mixed ?_)|(with_reducible refine Vc.DrawL.split (es:=[]) 9 13 (by decide) (by decide) (by decide) ?_ ?_)|(with_reducible refine Vc.DrawL.held (es:=[(9,13)]) [0,1,2,3,4,5,6,7,8,9,10,11,12,13,14,15] [] (by decide+kernel) ?_)|(with_reducible refine Vc.DrawL.held (es:=[(13,9)]) [0,1,2,3,4,5,6,7,8,13,9,10,11,12,14,15] [(13,[4,8])] (by decide+kernel) ?_))|refine Vc.stp ?_)<;>(intros;(conv=>whnf)))))
   exact⟨⟨none,0,0,.inr ⟨rfl,hnf⟩⟩,by exact Vc.xt⟩
  |true=>
  obtain⟨k0,js',rfl⟩: ∃ k0 js',js=k0::js':=by
   cases js with
   |nil=>simp at hm
   |cons k0 js'=>exact⟨k0,js',rfl⟩
  rw[List.length_cons]at hm hlen
  have hk0:L[k]? =some k0:=by rw[hLe,←hk];simp
  have hkl: ∀ j∈ks,Op.bytesLess j k0=true:=fun j hj=>by
   rw[hLe,SortT]at hL
   exact(List.pairwise_append.1 hL).2.2 j hj k0 List.mem_cons_self
  have hLe2:L=(ks++[k0])++js':=by rw[hLe];simp
  have hC:=cands_of ha k0
  rw[hrn]at hC
  have hVa:=fun i v (h:(versF R k0 rn)[i]? =some v)=>vers_at h
  have hVl:=versF_len R k0 rn
  have hVC:(versF R k0 rn).length=(candsF R k0 rn).length:=by unfold versF;rw[List.length_map]
  obtain⟨V,hV⟩: ∃ V,versF R k0 rn=V:=⟨_,rfl⟩
  obtain⟨C,hCe⟩: ∃ C,candsF R k0 rn=C:=⟨_,rfl⟩
  rw[hV]at hVa hVl hVC
  rw[hCe]at hC hVa hVC
  ((conv=>whnf);repeat(any_goals((first|(refine(ropen_any R ha hRB N hNB P hPk.sorted hrow no ra na pa oa rn rc nn nc pn pc on oc _ hR hN hP hO.strs hrn hnn hpn hon (by omega) hnl (by omega) (by omega) hnc).mono ?_;rintro _ H1 ⟨rfl,hx1⟩;have hz1:=hx1.size;rw[ho])|(refine(rneeded_any R hRB N P hPv _ ra na pa _ rn rc nn nc pn pc _ _ _ (hR.ext row_ok hx1) (hN.ext need_ok hx1) (hP.ext pin_ok hx1) (hJ.ext str_ok.ok hx1).strs hrn hnn hpn hjl hrl hnl (by omega) (by omega) hnc).mono ?_;rintro _ H2 ⟨rfl,hx2⟩;have hz2:=hx2.size;rw[hne])|(refine BndH.nat k rfl (by omega) ?_)|(refine IdxA.strv hT.strs htn k k0 rfl hk0 ?_;intro _ _ _ _ _)|(refine(rversions_any R ha k0 (rows_ver hRB) ra rn rc _ (hR.ext row_ok (by exact Vc.xt)) hrn (by omega)).mono ?_;rintro _ H3 ⟨⟨va,vc,rfl,hvo⟩,hx3⟩;have hz3:=hx3.size;rw[hV]at hvo ⊢)|(first|(with_reducible refine Vc.DrawH.lin (id:=9) mixed ?_)|(with_reducible refine Vc.DrawL.split (es:=[]) 9 13 (by decide) (by decide) (by decide) ?_ ?_)|(with_reducible refine Vc.DrawL.held (es:=[(9,13)]) [0,1,2,3,4,5,6,7,8,9,10,11,12,13,14,15] [] (by decide+kernel) ?_)|(with_reducible refine Vc.DrawL.held (es:=[(13,9)]) [0,1,2,3,4,5,6,7,8,13,9,10,11,12,14,15] [(13,[4,8])] (by decide+kernel) ?_))|refine Vc.stp ?_)<;>(intros;(conv=>whnf)))))
  have hx03:=And.intro trivial (hx1.trans (hx2.trans hx3))
  refine LoopH.intro (fun(i:Nat)=>[(15,.int .i64 i)]) (fun i H'=>i≤V.length∧(∀ j∈C.take i,∀ s,R[j]? =some s→NoFit R N (ks++[k0]) (P++[pinR s]))∧Ext H3 H') (fun i=>V.length-i) 0 ⟨rfl,trivial⟩ ⟨Nat.zero_le _,fun j h=>(by rw[List.take_zero]at h;cases h),Ext.refl _⟩ ?_
  rintro i H5 ⟨hi,hnos,hx5⟩
  have hz5:=hx5.size
  have hx05:=And.intro trivial (hx03.2.trans hx5)
  have hx05':Ext H H5:=hx05.2
  by_cases hlt:i<V.length
  ·obtain⟨v,hv⟩: ∃ v,V[i]? =some v:=⟨_,List.getElem?_eq_getElem hlt⟩
   obtain⟨ri,r,hci,hri,hrk,hrv⟩:=hVa i v hv
   subst hrk
   subst hrv
   have hr:=List.mem_of_getElem? hri
   have hvB:=rows_ver hRB r hr
   have hidx:idxR R r.name r.v=some ri:=idx_of ha hri
   have hfind:=fun H' (k:Ext H H') y hy=>rfind_any R r.name r.v hvB (rows_ver hRB) ra rn rc y H H' k hR hrn (by omega) hy
   rw[hidx]at hfind
   have hPk2:=hPk.push hr hkl
   have hCs:C=C.take i++ri::C.drop (i+1):=by
    have hil:i<C.length:=(List.getElem?_eq_some_iff.1 hci).1
    have:=List.drop_eq_getElem_cons hil
    rw[List.getElem?_eq_getElem hil]at hci
    rw[Option.some.inj hci]at this
    rw[←this,List.take_append_drop]
   have hC2:Cands R r.name (C.take i++ri::C.drop (i+1)):=by rw[←hCs];exact hC
   have hnx:NoFit R N (ks++[r.name]) (P++[pinR r])→ ∀ j∈C.take (i+1),∀ s,R[j]? =some s→NoFit R N (ks++[r.name]) (P++[pinR s]):=fun hnf j hj s hs=>by
    rw[List.take_add_one,hci]at hj
    rcases List.mem_append.1 hj with hj|hj
    ·exact hnos j hj s hs
    ·have:j=ri:=by simpa using hj
     subst this
     rw[hri]at hs;cases hs
     exact hnf
   ((conv=>whnf);repeat(any_goals((first|(refine IdxA.strv hT.strs htn k r.name rfl hk0 ?_;intro _ _ _ _ _)|(refine IdxA.el ver_ok (by decide) (hvo.row.ext ver_ok hx5) rfl i r.v rfl hv ?_;intro b3 o3 c3 hcX hcx;obtain⟨xa,xc,ex,hxl,hxr⟩:=(id hcX);have hxv: ∀ (k:Nat) (u:Value),([.int .i64 r.v.ma,.int .i64 r.v.mi,.int .i64 r.v.pa,.slice xa r.v.pre.length xc]:List Value)[k]? =some u→hcell H5 ⟨b3,o3+k,none⟩=some u:=fun k u hu=>hcx k u (by rw[ex];exact hu))|((with_reducible apply SemH.load_ver);(exact hxv);(exact Vc.xt);(conv=>whnf))|(refine(hfind _ (hx05'.trans (by exact Vc.xt)) _ (verO_of hxl (hxr.ext (by exact Vc.xt)))).mono ?_;rintro _ H6 ⟨⟨r2,cr,hr2,rfl,hcr⟩,hx6⟩;have hz6:=hx6.size;rw[hri]at hr2;have e7:=Option.some.inj hr2;subst e7)|(rename_i Hq zq bq xq;(first|refine DoH.store_list bq rfl (by rw[row_ok.len hcr];rfl) (by rw[row_ok.len hcr];rfl) (row_ok.plain hcr) ?_|refine DoH.store_list (bq.ext hx6) rfl (by rw[row_ok.len hcr];rfl) (by rw[row_ok.len hcr];rfl) (row_ok.plain hcr) ?_);intro H7 z7 b7 k7;obtain⟨sa,sc,ma,mc,er,r32,hsl,hsr,hnl7,hnr7⟩:=(id hcr);have hrn7:=blk_list b7 0 0 (Value.string (mkS r.name)) (by rw[er];rfl);have hrv7:=(fun k u hu=>blk_list b7 1 k u (by rw[Nat.add_comm];exact row_ver er k u hu));have hrs7:=fun k u hu=>blk_list b7 5 k u (row_sum er k u hu);have hx57:Ext H5 H7:=(by first|exact(xq.trans hx6).but k7 (Nat.le_refl _)|exact(hx6.trans xq).but k7 (by omega)))|((with_reducible apply SemH.load_ver);(exact hrv7);(exact Ext.refl _);(conv=>whnf))|((with_reducible apply SemH.load_key2);(exact r32);(exact hrs7);(exact Ext.refl _);(conv=>whnf))|(refine BndH.nat pn rfl (by omega) ?_)|(refine PureH.build3 _ (pin_built r32) ?_)|(refine SemH.pinLit _ (pinL_len r32) ?_;intro H8 z8 b8 x8)|(refine Vc.StillsH.load rfl rfl rfl rfl rfl rfl (by first|exact SemH.load_ver hxv (by exact Vc.xt) rfl|(exact SemH.load_old rfl (by assumption) (hx05'.trans (by exact Vc.xt)) rfl)) ?_)|(first|(with_reducible refine Vc.DrawH.lin (id:=9) mixed ?_)|(with_reducible refine Vc.DrawL.split (es:=[]) 9 13 (by decide) (by decide) (by decide) ?_ ?_)|(with_reducible refine Vc.DrawL.held (es:=[(9,13)]) [0,1,2,3,4,5,6,7,8,9,10,11,12,13,14,15] [] (by decide+kernel) ?_)|(with_reducible refine Vc.DrawL.held (es:=[(13,9)]) [0,1,2,3,4,5,6,7,8,13,9,10,11,12,14,15] [(13,[4,8])] (by decide+kernel) ?_))|refine Vc.stp ?_)<;>(intros;(conv=>whnf)))))
   ·have hpE:pinE H (pinR r) (pinL r.name r.v r.sum sa sc):=⟨sa,sc,rfl,r32,hsl,hsr⟩;have hx08:Ext H H8:=hx05'.trans (hx57.trans x8);refine NextH.full1 pin_ok rfl ⟨_,rfl,fun _ h=>by cases h⟩ rfl rfl rfl rfl (by decide) (hP.ext pin_ok hx08) hpn (own_litE pin_ok b8 (LstV.one (pin_ok.ext hx08 hpE)) (Nat.le_refl _) (by simp)).row rfl (by decide) (by omega) ?_;intro c9 H9 ho9 hx9;have hx09:=hx08.trans hx9;have hcl9:=ho9.cap_le;have hx39:Ext H3 H9:=hx5.trans (hx57.trans (x8.trans hx9))
    ((conv=>whnf);repeat(any_goals((first|(first|(with_reducible refine Vc.DrawH.lin (id:=9) mixed ?_)|(with_reducible refine Vc.DrawL.split (es:=[]) 9 13 (by decide) (by decide) (by decide) ?_ ?_)|(with_reducible refine Vc.DrawL.held (es:=[(9,13)]) [0,1,2,3,4,5,6,7,8,9,10,11,12,13,14,15] [] (by decide+kernel) ?_)|(with_reducible refine Vc.DrawL.held (es:=[(13,9)]) [0,1,2,3,4,5,6,7,8,13,9,10,11,12,14,15] [(13,[4,8])] (by decide+kernel) ?_))|refine Vc.stp ?_)<;>(intros;(conv=>whnf)))))
    refine(ih (ks++[r.name]) js' (P++[pinR r]) no _ oa (pn+1) c9 on oc (k+1) _ (by omega) hLe2 (by rw[List.length_append,hk];rfl) hPk2 (fun x hx=>List.mem_append_left _ (hno x hx)) (by rw[List.length_append];omega) (by rw[List.length_append,List.length_append];exact Nat.add_le_add_right hPl 1) (by rw[List.length_append,hpn];rfl) hon (by rw[List.length_append,hpn]at hcl9;exact hcl9) hoc (hR.ext row_ok hx09) (hN.ext need_ok hx09) (hT.ext str_ok.ok hx09) ho9.row (hO.ext str_ok.ok hx09)).mono ?_;rintro _ H10 ⟨⟨a',n',c',hres⟩,hx10⟩;rcases hres with ⟨Q,rfl,hQl,hQc,hQr,hQp,hQf⟩|⟨rfl,hnf⟩
    ·((conv=>whnf);repeat(any_goals((first|(first|(with_reducible refine Vc.DrawH.lin (id:=9) mixed ?_)|(with_reducible refine Vc.DrawL.split (es:=[]) 9 13 (by decide) (by decide) (by decide) ?_ ?_)|(with_reducible refine Vc.DrawL.held (es:=[(9,13)]) [0,1,2,3,4,5,6,7,8,9,10,11,12,13,14,15] [] (by decide+kernel) ?_)|(with_reducible refine Vc.DrawL.held (es:=[(13,9)]) [0,1,2,3,4,5,6,7,8,13,9,10,11,12,14,15] [(13,[4,8])] (by decide+kernel) ?_))|refine Vc.stp ?_)<;>(intros;(conv=>whnf)))))
     exact⟨⟨a',n',c',.inl ⟨Q,rfl,hQl,hQc,hQr,by(rw[List.append_assoc]at hQp;exact hQp),found_at ha hPk hC2 hri hkl hnos hQf⟩⟩,hx09.trans hx10⟩
    ·((conv=>whnf);repeat(any_goals((first|(first|(with_reducible refine Vc.DrawH.lin (id:=9) mixed ?_)|(with_reducible refine Vc.DrawL.split (es:=[]) 9 13 (by decide) (by decide) (by decide) ?_ ?_)|(with_reducible refine Vc.DrawL.held (es:=[(9,13)]) [0,1,2,3,4,5,6,7,8,9,10,11,12,13,14,15] [] (by decide+kernel) ?_)|(with_reducible refine Vc.DrawL.held (es:=[(13,9)]) [0,1,2,3,4,5,6,7,8,13,9,10,11,12,14,15] [(13,[4,8])] (by decide+kernel) ?_))|refine Vc.stp ?_)<;>(intros;(conv=>whnf)))))
     exact⟨i+1,⟨rfl,trivial⟩,⟨by omega,hnx hnf,hx39.trans hx10⟩,by omega⟩
   ·have hpE:pinE H (pinR r) (pinL r.name r.v r.sum sa sc):=⟨sa,sc,rfl,r32,hsl,hsr⟩;have hx08:Ext H H8:=hx05'.trans (hx57.trans x8);refine NextH.full1 pin_ok rfl ⟨_,rfl,fun _ h=>by cases h⟩ rfl rfl rfl rfl (by decide) (hP.ext pin_ok hx08) hpn (own_litE pin_ok b8 (LstV.one (pin_ok.ext hx08 hpE)) (Nat.le_refl _) (by simp)).row rfl (by decide) (by omega) ?_;intro c9 H9 ho9 hx9;have hx09:=hx08.trans hx9;have hcl9:=ho9.cap_le;have hx39:Ext H3 H9:=hx5.trans (hx57.trans (x8.trans hx9))
    ((conv=>whnf);repeat(any_goals((first|(first|(with_reducible refine Vc.DrawH.lin (id:=9) mixed ?_)|(with_reducible refine Vc.DrawL.split (es:=[]) 9 13 (by decide) (by decide) (by decide) ?_ ?_)|(with_reducible refine Vc.DrawL.held (es:=[(9,13)]) [0,1,2,3,4,5,6,7,8,9,10,11,12,13,14,15] [] (by decide+kernel) ?_)|(with_reducible refine Vc.DrawL.held (es:=[(13,9)]) [0,1,2,3,4,5,6,7,8,13,9,10,11,12,14,15] [(13,[4,8])] (by decide+kernel) ?_))|refine Vc.stp ?_)<;>(intros;(conv=>whnf)))))
    refine(ih (ks++[r.name]) js' (P++[pinR r]) no _ oa (pn+1) c9 on oc (k+1) _ (by omega) hLe2 (by rw[List.length_append,hk];rfl) hPk2 (fun x hx=>List.mem_append_left _ (hno x hx)) (by rw[List.length_append];omega) (by rw[List.length_append,List.length_append];exact Nat.add_le_add_right hPl 1) (by rw[List.length_append,hpn];rfl) hon (by rw[List.length_append,hpn]at hcl9;exact hcl9) hoc (hR.ext row_ok hx09) (hN.ext need_ok hx09) (hT.ext str_ok.ok hx09) ho9.row (hO.ext str_ok.ok hx09)).mono ?_;rintro _ H10 ⟨⟨a',n',c',hres⟩,hx10⟩;rcases hres with ⟨Q,rfl,hQl,hQc,hQr,hQp,hQf⟩|⟨rfl,hnf⟩
    ·((conv=>whnf);repeat(any_goals((first|(first|(with_reducible refine Vc.DrawH.lin (id:=9) mixed ?_)|(with_reducible refine Vc.DrawL.split (es:=[]) 9 13 (by decide) (by decide) (by decide) ?_ ?_)|(with_reducible refine Vc.DrawL.held (es:=[(9,13)]) [0,1,2,3,4,5,6,7,8,9,10,11,12,13,14,15] [] (by decide+kernel) ?_)|(with_reducible refine Vc.DrawL.held (es:=[(13,9)]) [0,1,2,3,4,5,6,7,8,13,9,10,11,12,14,15] [(13,[4,8])] (by decide+kernel) ?_))|refine Vc.stp ?_)<;>(intros;(conv=>whnf)))))
     exact⟨⟨a',n',c',.inl ⟨Q,rfl,hQl,hQc,hQr,by(rw[List.append_assoc]at hQp;exact hQp),found_at ha hPk hC2 hri hkl hnos hQf⟩⟩,hx09.trans hx10⟩
    ·((conv=>whnf);repeat(any_goals((first|(first|(with_reducible refine Vc.DrawH.lin (id:=9) mixed ?_)|(with_reducible refine Vc.DrawL.split (es:=[]) 9 13 (by decide) (by decide) (by decide) ?_ ?_)|(with_reducible refine Vc.DrawL.held (es:=[(9,13)]) [0,1,2,3,4,5,6,7,8,9,10,11,12,13,14,15] [] (by decide+kernel) ?_)|(with_reducible refine Vc.DrawL.held (es:=[(13,9)]) [0,1,2,3,4,5,6,7,8,13,9,10,11,12,14,15] [(13,[4,8])] (by decide+kernel) ?_))|refine Vc.stp ?_)<;>(intros;(conv=>whnf)))))
     exact⟨i+1,⟨rfl,trivial⟩,⟨by omega,hnx hnf,hx39.trans hx10⟩,by omega⟩
  ·have hCi:C.take i=C:=List.take_of_length_le (by omega)
   rw[hCi]at hnos
   ((conv=>whnf);repeat(any_goals((first|(refine IdxA.strv hT.strs htn k k0 rfl hk0 ?_;intro _ _ _ _ _)|(refine BndH.nat on rfl (by omega) ?_)|(first|(with_reducible refine Vc.DrawH.lin (id:=9) mixed ?_)|(with_reducible refine Vc.DrawL.split (es:=[]) 9 13 (by decide) (by decide) (by decide) ?_ ?_)|(with_reducible refine Vc.DrawL.held (es:=[(9,13)]) [0,1,2,3,4,5,6,7,8,9,10,11,12,13,14,15] [] (by decide+kernel) ?_)|(with_reducible refine Vc.DrawL.held (es:=[(13,9)]) [0,1,2,3,4,5,6,7,8,13,9,10,11,12,14,15] [(13,[4,8])] (by decide+kernel) ?_))|refine Vc.stp ?_)<;>(intros;(conv=>whnf)))))
   rename_i H6 z6 b6 x6
   have hx06:=hx05'.trans x6
   refine NextH.full1 str_ok.ok rfl ⟨_,rfl,fun _ h=>by cases h⟩ rfl rfl rfl rfl (by decide) (hO.ext str_ok.ok hx06) hon (own_litE (l:=[k0]) (xs:=[.string (mkS k0)]) str_ok.ok b6 (LstV.one rfl) (Nat.le_refl _) (by simp)).row rfl (by decide) (by omega) ?_
   intro c9 H9 ho9 hx9
   have hx09:=hx06.trans hx9
   have hcl9:=ho9.cap_le
   ((conv=>whnf);repeat(any_goals((first|(first|(with_reducible refine Vc.DrawH.lin (id:=9) mixed ?_)|(with_reducible refine Vc.DrawL.split (es:=[]) 9 13 (by decide) (by decide) (by decide) ?_ ?_)|(with_reducible refine Vc.DrawL.held (es:=[(9,13)]) [0,1,2,3,4,5,6,7,8,9,10,11,12,13,14,15] [] (by decide+kernel) ?_)|(with_reducible refine Vc.DrawL.held (es:=[(13,9)]) [0,1,2,3,4,5,6,7,8,13,9,10,11,12,14,15] [(13,[4,8])] (by decide+kernel) ?_))|refine Vc.stp ?_)<;>(intros;(conv=>whnf)))))
   refine(ih (ks++[k0]) js' P (no++[k0]) pa _ pn pc (on+1) c9 (k+1) _ (by omega) hLe2 (by rw[List.length_append,hk];rfl) (hPk.skip k0) (fun x hx=>(List.mem_append.1 hx).elim (fun h=>List.mem_append_left _ (hno x h)) (fun h=>List.mem_append_right _ h)) (by rw[List.length_append,List.length_append];exact Nat.add_le_add_right hnol 1) (by rw[List.length_append];omega) hpn (by rw[List.length_append,hon];rfl) hpc (by rw[List.length_append,hon]at hcl9;exact hcl9) (hR.ext row_ok hx09) (hN.ext need_ok hx09) (hT.ext str_ok.ok hx09) (hP.ext pin_ok hx09) ho9.row).mono ?_
   rintro _ H10 ⟨⟨a',n',c',hres⟩,hx10⟩
   rcases hres with ⟨Q,rfl,hQl,hQc,hQr,hQp,hQf⟩|⟨rfl,hnf⟩
   ·((conv=>whnf);repeat(any_goals((first|(first|(with_reducible refine Vc.DrawH.lin (id:=9) mixed ?_)|(with_reducible refine Vc.DrawL.split (es:=[]) 9 13 (by decide) (by decide) (by decide) ?_ ?_)|(with_reducible refine Vc.DrawL.held (es:=[(9,13)]) [0,1,2,3,4,5,6,7,8,9,10,11,12,13,14,15] [] (by decide+kernel) ?_)|(with_reducible refine Vc.DrawL.held (es:=[(13,9)]) [0,1,2,3,4,5,6,7,8,13,9,10,11,12,14,15] [(13,[4,8])] (by decide+kernel) ?_))|refine Vc.stp ?_)<;>(intros;(conv=>whnf)))))
    exact⟨⟨a',n',c',.inl ⟨Q,rfl,hQl,hQc,hQr,by(rw[List.append_assoc]at hQp;exact hQp),found_skip ha hPk hC hkl hnos hQf⟩⟩,hx09.trans hx10⟩
   ·((conv=>whnf);repeat(any_goals((first|(first|(with_reducible refine Vc.DrawH.lin (id:=9) mixed ?_)|(with_reducible refine Vc.DrawL.split (es:=[]) 9 13 (by decide) (by decide) (by decide) ?_ ?_)|(with_reducible refine Vc.DrawL.held (es:=[(9,13)]) [0,1,2,3,4,5,6,7,8,9,10,11,12,13,14,15] [] (by decide+kernel) ?_)|(with_reducible refine Vc.DrawL.held (es:=[(13,9)]) [0,1,2,3,4,5,6,7,8,13,9,10,11,12,14,15] [(13,[4,8])] (by decide+kernel) ?_))|refine Vc.stp ?_)<;>(intros;(conv=>whnf)))))
    exact⟨⟨a',n',c',.inr ⟨rfl,nofit_all ha hPk hC hkl hnos hnf⟩⟩,hx09.trans hx10⟩
end Go.Proofs.YtjdieklgoepdjaaGreatDoor
namespace Go.Slv
open Go.Scr Go.Tre
theorem solves_found {R:List RowP} (ha:Apart R) {N:List NeedP} {L:List Txt} (hL:NamesP R L) {Q:List PinP} (hQ:PinsOk R L Q) (h:Found R N [] L [] (choP R Q)):Solves R N (some Q):=by
 have:=solves_best ha hL (found_best h)
 rw[pins_cho ha hL.ord hQ.sorted hQ.row]at this
 exact this
theorem solves_nofit {R:List RowP} (ha:Apart R) {N:List NeedP} (h:NoFit R N [] []):Solves R N none:=solves_none ha fun c hs=>h c hs fun k hk=>by cases hk
end Go.Slv
namespace Go.Proofs.YtjdieklgoepdjaaGreatDoor
open Go Go.Vc Go.Scr Go.Slv
def SolvR (H:Heap) (x:Value):Option (List PinP)→Prop
 |some P=>∃ a n c,x= .tuple #[.slice a n c,.int .i64 0]∧P.length=n∧n≤c∧RowE pinE H a P
 |none=>x= .tuple #[.slice none 0 0,.int .i64 70]
set_option maxHeartbeats 4000000 in
theorem rsolve_any (R:List RowP) (ha:Apart R) (hRB:RowsB R) (N:List NeedP) (hNB: ∀ n∈N,SpnB n.span) (ra na:Option Addr) (rn rc nn nc:Nat) (b:Int) (hb:1≤b) (H:Heap) (hR:RowE rowE H ra R) (hN:RowE needE H na N) (hrn:R.length=rn) (hnn:N.length=nn) (hrl:rn≤900) (hnl:nn≤10000) (hnc:nn≤nc):
  CallH Tryz.prog 21 [.slice ra rn rc,.slice na nn nc,.int .i64 b] H fun x H'=>(∃ o,SolvR H' x o∧Solves R N o)∧Ext H H':=by
 have hNm:=names_namesF R
 have hNl:=namesF_len R
 refine Vc.CallH.body Tryz.func21 Tryz.call21 rfl (by decide+kernel) rfl ?_
 ((conv=>whnf);repeat(any_goals((first|(refine(rnames_any R ra rn rc _ hR hrn (by omega)).mono ?_;rintro _ H1 ⟨⟨ta,tc,rfl,hT⟩,hx1⟩;have hz1:=hx1.size)|refine Vc.stp ?_)<;>(intros;(conv=>whnf)))))
 have hcl:=hT.cap_le
 refine(rsearch_any R ha hRB N hNB (namesF R) hNm.ord (fun r hr=>(hNm.mem _).2 ⟨r,hr,rfl⟩) ra na ta rn rc nn nc _ tc hrn hnn rfl hrl hnl (by omega) hnc hcl _ [] (namesF R) [] [] none none 0 0 0 0 0 _ rfl rfl rfl (PinsOk.nil R) (fun x h=>by cases h) (Nat.le_refl _) (Nat.le_refl _) rfl rfl (Nat.le_refl _) (Nat.le_refl _) (hR.ext row_ok hx1) (hN.ext need_ok hx1) hT.row.strE ⟨[],Row.nil _ _,.nil⟩ ⟨[],Row.nil _ _,.nil⟩).mono ?_
 rintro _ H2 ⟨⟨a',n',c',hres⟩,hx2⟩
 rcases hres with ⟨Q,rfl,hQl,hQc,hQr,hQp,hQf⟩|⟨rfl,hnf⟩
 ·((conv=>whnf);repeat(any_goals((first|refine Vc.stp ?_)<;>(intros;(conv=>whnf)))))
  exact⟨⟨some Q,⟨a',n',c',rfl,hQl,hQc,hQr⟩,solves_found ha hNm hQp hQf⟩,hx1.trans hx2⟩
 ·((conv=>whnf);repeat(any_goals((first|refine Vc.stp ?_)<;>(intros;(conv=>whnf)))))
  exact⟨⟨none,rfl,solves_nofit ha hnf⟩,hx1.trans hx2⟩
end Go.Proofs.YtjdieklgoepdjaaGreatDoor
