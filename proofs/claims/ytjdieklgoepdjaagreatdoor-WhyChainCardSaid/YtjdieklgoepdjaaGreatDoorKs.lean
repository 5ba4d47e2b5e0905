import Derived.Test.YtjdieklgoepdjaaGreatDoorKg
import Derived.Test.YtjdieklgoepdjaaGreatDoorKj
import Derived.Test.YtjdieklgoepdjaaGreatDoorKd
import Derived.Test.YtjdieklgoepdjaaGreatDoorKr
set_option linter.unusedVariables false
set_option linter.unusedSimpArgs false
set_option maxRecDepth 100000
/- The code: why.names, why.needed. -/
namespace Go.Why
open Go.Scr Go.Tre Go.Slv
theorem find_ix {α:Type} (p:α→Bool): ∀ (l:List α),l.find? p=(l.findIdx? p).bind fun i=>l[i]?
 |[]=>rfl
 |x::l=>by
  rw[List.find?_cons,List.findIdx?_cons]
  cases h:p x with
  |true=>rfl
  |false=>
   dsimp only
   rw[find_ix p l]
   cases l.findIdx? p<;>rfl
end Go.Why
namespace Go.Proofs.YtjdieklgoepdjaaGreatDoor
open Go Go.Vc Go.Scr Go.Slv
structure WnS where
 i:Nat
 a:Option Addr
 cap:Nat
set_option maxHeartbeats 2000000 in
theorem wnames_any (L:List NeedP) (a:Option Addr) (n cap:Nat) (H:Heap) (hr:RowE needE H a L) (hn:L.length=n) (hnl:n≤100000):
  CallH Tryz.prog 56 [.slice a n cap] H fun x H'=>(∃ a' c',x= .slice a' (Why.namesN L).length c'∧Own H' H.size 9 1 a' (Why.namesN L).length c' (strs (Why.namesN L)))∧Ext H H':=by
 have hNl:=Why.namesN_len L
 refine Vc.CallH.body Tryz.func56 Tryz.call56 rfl (by decide+kernel) rfl ?_
 ((conv=>whnf);repeat(any_goals((first|refine Vc.stp ?_)<;>(intros;(conv=>whnf)))))
 refine LoopH.intro (fun(x:WnS)=>[(8,.int .i64 x.i),(3,.slice x.a x.i x.cap)]) (fun x H'=>x.i≤n∧Own H' H.size 9 1 x.a x.i x.cap (strs ((L.take x.i).map (·.name)))∧Ext H H') (fun x=>n-x.i) ⟨0,none,0⟩ ⟨rfl,rfl,trivial⟩ ⟨Nat.zero_le _,by dsimp only;rw[List.take_zero];exact Vc.Own.nil _ _ _ _,Ext.refl _⟩ ?_
 rintro⟨i,oa,oc⟩ H1 ⟨hi,ho1,hx1⟩
 dsimp only at hi ho1 ⊢
 have hz1:=hx1.size
 by_cases hlt:i<n
 ·obtain⟨r,hri⟩: ∃ r,L[i]? =some r:=⟨_,List.getElem?_eq_getElem (by omega)⟩
  have hcap:=ho1.cap_le
  have hsn:(L.take (i+1)).map (·.name)=(L.take i).map (·.name)++[r.name]:=by rw[List.take_add_one,hri];simp
  ((conv=>whnf);repeat(any_goals((first|(refine IdxA.el need_ok (by decide) (hr.ext need_ok hx1) hn i r rfl hri ?_;intro b o c hcR hcl;obtain⟨sa,sc,ec,hsl2,hsr⟩:=(id hcR))|((with_reducible apply SemH.load_el);rfl;rfl;(show 4=_;exact(need_ok.len hcR).symm);(exact hcl);(exact Vc.xt);(conv=>whnf))|(rename_i Hl zl bl xl;refine DoH.store_list bl rfl (by exact need_ok.len hcR) (by rw[need_ok.len hcR];rfl) (by exact need_ok.plain hcR) ?_;intro H3 z3 b3 k3;have hc0:hcell H3 ⟨H1.size,0+0,none⟩=some (Value.string (mkS r.name)):=(blk_list b3 0 0 _ (by rw[ec];rfl));have hx13:Ext H1 H3:=xl.but k3 (Nat.le_refl _))|(rename_i Hm zm bm xm;refine NextH.push1b bm ((ho1.ext hx13).ext xm) (by omega) (by omega) rfl ⟨_,rfl,fun _ h=>by cases h⟩ rfl rfl rfl rfl rfl rfl rfl ?_;intro a5 c5 H9 ho9 hz9 hw9)|refine Vc.stp ?_)<;>(intros;(conv=>whnf)))))
  have ho10:Own H9 H.size 9 1 a5 (i+1) c5 (strs ((L.take (i+1)).map (·.name))):=by rw[hsn,strs_append];exact ho9
  have hx9:Ext H H9:=((hx1.trans hx13).trans xm).wr ((ho1.ext hx13).ext xm) (Nat.le_refl _) hw9
  exact⟨⟨i+1,a5,c5⟩,⟨rfl,rfl,trivial⟩,⟨(by show i+1≤n;omega),ho10,hx9⟩,(by show n-(i+1)<n-i;omega)⟩
 ·obtain rfl:i=n:=by omega
  rw[←hn,List.take_length]at ho1
  cases oa with
  |none=>
   have hk0:L.length=0:=by
    rcases ho1.out with ⟨_,h,_⟩|⟨g,cur,h,_⟩
    ·exact h
    ·cases h
   have hR:L=[]:=List.eq_nil_of_length_eq_zero hk0
   subst hR
   have hi0:i=0:=hn.symm
   subst hi0
   ((conv=>whnf);repeat(any_goals((first|(refine(sort0_any _ _ _).mono ?_;rintro _ _ ⟨rfl,rfl⟩)|refine Vc.stp ?_)<;>(intros;(conv=>whnf)))))
   exact⟨⟨none,oc,rfl,ho1⟩,hx1⟩
  |some p=>
   obtain⟨g,hg0⟩: ∃ g,p=⟨g,0,none⟩:=by
    rcases ho1.out with ⟨h,_⟩|⟨g,cur,h,_⟩
    ·cases h
    ·cases h;exact⟨g,rfl⟩
   subst hg0
   have hml:(L.map (·.name)).length=i:=by rw[List.length_map,hn]
   rw[hn]at ho1
   ((conv=>whnf);repeat(any_goals((first|refine Vc.stp ?_)<;>(intros;(conv=>whnf)))))
   refine(sorts_any (L.map (·.name)) g i oc H.size _ ho1 hml (by omega)).mono ?_
   rintro _ H2 ⟨rfl,⟨l',hp',hs',ho'⟩,hw'⟩
   have hx2:Ext H H2:=hx1.wr ho1 (Nat.le_refl _) hw'
   have hll:l'=Why.namesN L:=Why.namesN_one hp' hs'
   subst hll
   ((conv=>whnf);repeat(any_goals((first|refine Vc.stp ?_)<;>(intros;(conv=>whnf)))))
   exact⟨⟨_,oc,by rw[hNl,hn];rfl,by rw[hNl,hn];exact ho'⟩,hx2⟩
set_option maxHeartbeats 2000000 in
theorem wneeded1_any (p:PinP) (k:Bs) (g1:Nat) (c:List Value) (H0 H:Heap) (hE:pinE H0 p c) (h1:Blk H g1 #[.string (mkS k)] 9):
  CallH Tryz.prog 106 [.agg c.toArray,.pointer (some ⟨g1,0,none⟩)] H fun x H'=>x= .bool (p.name==k)∧Ext H H':=by
 obtain⟨pa,pc,ec,h32,hpl,hpr⟩:=id hE
 have e1:((mkS p.name).toList==(mkS k).toList)=(p.name==k):=by rw[toListS,toListS]
 refine Vc.CallH.body Tryz.func106 Tryz.call106 rfl (by decide+kernel) rfl ?_
 ((conv=>whnf);repeat(any_goals((first|(refine Vc.SemH.box ?_;intro Hb zb bb xb;have hn0:hcell Hb ⟨H.size,0+0,none⟩=some (Value.string (mkS p.name)):=blk_list bb 0 0 _ (by rw[ec];rfl))|refine Vc.stp ?_)<;>(intros;(conv=>whnf)))))
 exact⟨by show Value.bool _=_;rw[e1],by exact Vc.xt⟩
set_option maxHeartbeats 4000000 in
theorem wneeded_any (R:List RowP) (hRB:RowsB R) (P:List PinP) (hPv: ∀ p∈P,VerB p.v) (k:Bs) (ra pa:Option Addr) (rn rc pn pc:Nat) (H0 H:Heap) (k0:Ext H0 H) (hr:RowE rowE H0 ra R) (hrn:R.length=rn) (hrl:rn≤10000) (hP:RowE pinE H0 pa P) (hpn:P.length=pn) (hpl:pn≤10000):
  CallH Tryz.prog 57 [.slice ra rn rc,.slice pa pn pc,.string (mkS k)] H fun x H'=>(∃ a c,x= .slice a (Why.needsP R P k).length c∧(Why.needsP R P k).length≤c∧RowE needE H' a (Why.needsP R P k))∧Ext H H':=by
 refine Vc.CallH.body Tryz.func57 Tryz.call57 rfl (by decide+kernel) rfl ?_
 ((conv=>whnf);repeat(any_goals((first|(first|(with_reducible refine Vc.DrawH.lin (id:=4) mixed ?_)|(with_reducible refine Vc.DrawL.split (es:=[]) 7 11 (by decide) (by decide) (by decide) ?_ ?_)|(with_reducible refine Vc.DrawL.held (es:=[(7,11)]) [0,1,2,3,4,5,6,7,8,9,10,11,12,13] [] (by decide+kernel) ?_)|(with_reducible refine Vc.DrawL.held (es:=[(11,7)]) [0,1,2,3,4,5,6,11,7,8,9,10,12,13] [(11,[1,6])] (by decide+kernel) ?_))|refine Vc.stp ?_)<;>(intros;(conv=>whnf)))))
 rename_i H1 z1 b1 x1
 have hix:=fun H' (x:Ext H1 H')=>ixpin_any P (fun p=>p.name==k) 106 (.pointer (some ⟨H.size,0,none⟩)) pa pn pc H0 H' (k0.trans (x1.trans x)) hP hpn (by omega) fun p c H'' hm hc hk=>wneeded1_any p k H.size c H0 H'' hc (b1.ext (x.trans hk))
 have hfi:=Why.find_ix (fun p:PinP=>p.name==k) P
 obtain⟨I,hI⟩: ∃ I,P.findIdx? (fun p=>p.name==k)=I:=⟨_,rfl⟩
 rw[hI]at hix hfi
 cases I with
 |none=>
  have e:Why.needsP R P k=[]:=by unfold Why.needsP;rw[hfi];rfl
  rw[e]
  have hix: ∀ H',Ext H1 H'→CallH Tryz.prog _ _ H' fun v H''=>v= .int .i64 (-1)∧Ext H' H'':=hix
  ((conv=>whnf);repeat(any_goals((first|(refine SemH.mkFunc ?_)|(refine(hix _ (by exact Vc.xt)).mono ?_;rintro _ H2 ⟨rfl,hx2⟩;have hz2:=hx2.size)|(first|(with_reducible refine Vc.DrawH.lin (id:=4) mixed ?_)|(with_reducible refine Vc.DrawL.split (es:=[]) 7 11 (by decide) (by decide) (by decide) ?_ ?_)|(with_reducible refine Vc.DrawL.held (es:=[(7,11)]) [0,1,2,3,4,5,6,7,8,9,10,11,12,13] [] (by decide+kernel) ?_)|(with_reducible refine Vc.DrawL.held (es:=[(11,7)]) [0,1,2,3,4,5,6,11,7,8,9,10,12,13] [(11,[1,6])] (by decide+kernel) ?_))|refine Vc.stp ?_)<;>(intros;(conv=>whnf)))))
  exact⟨⟨none,0,rfl,Nat.le_refl _,⟨[],Row.nil _ _,.nil⟩⟩,by exact Vc.xt⟩
 |some i=>
  have hix: ∀ H',Ext H1 H'→CallH Tryz.prog _ _ H' fun v H''=>v= .int .i64 (i:Int)∧Ext H' H'':=hix
  have hil:i<P.length:=(List.findIdx?_eq_some_iff_getElem.1 hI).1
  obtain⟨p,hp⟩: ∃ p,P[i]? =some p:=⟨_,List.getElem?_eq_getElem hil⟩
  have hpk:p.name=k:=by
   obtain⟨h1,h2,_⟩:=List.findIdx?_eq_some_iff_getElem.1 hI
   rw[List.getElem?_eq_getElem h1]at hp
   cases hp
   simpa using h2
  have hf:P.find? (fun p=>p.name==k)=some p:=by rw[hfi];exact hp
  obtain⟨bP,oP,cP,hcP,hclP,hixP⟩:=hP.fix pin_ok (by decide) hpn hp
  obtain⟨ya,yc,ec,h32,hyl,hyr⟩:=id hcP
  have hpv: ∀ (q:Nat) (u:Value),([.int .i64 p.v.ma,.int .i64 p.v.mi,.int .i64 p.v.pa,.slice ya p.v.pre.length yc]:List Value)[q]? =some u→hcell H0 ⟨bP,oP+1+q,none⟩=some u:=fun q u hu=>by rw[Nat.add_assoc];exact hclP (1+q) u (pin_ver1 ec q u hu)
  have hfd:=fun H' (x:Ext H0 H') y hy=>findN_any R hRB k p.v (hPv p (List.mem_of_getElem? hp)) ra rn rc y H0 H' x hr hrn (by omega) hy
  have hnP:Why.needsP R P k=match idxR R k p.v with
    |none=>[]
    |some i=>needsR R i:=by unfold Why.needsP;rw[hf];dsimp only;rw[hpk];cases idxR R k p.v<;>rfl
  obtain⟨J,hJ⟩: ∃ J,idxR R k p.v=J:=⟨_,rfl⟩
  rw[hJ]at hfd hnP
  cases J with
  |none=>
   have hnP:Why.needsP R P k=[]:=hnP
   rw[hnP]
   ((conv=>whnf);repeat(any_goals((first|(refine SemH.mkFunc ?_)|(refine(hix _ (by exact Vc.xt)).mono ?_;rintro _ H2 ⟨rfl,hx2⟩;have hz2:=hx2.size)|(refine hixP _ _ rfl ?_)|((with_reducible apply SemH.load_ver);(exact hpv);(exact k0.trans (by exact Vc.xt));(conv=>whnf))|(refine Vc.StillsH.load rfl rfl rfl rfl rfl rfl (by first|exact SemH.load_ver hpv (k0.trans (by exact Vc.xt)) rfl|exact SemH.load_old rfl (by assumption) (by exact Vc.xt) rfl) ?_)|(refine(hfd _ (k0.trans (by exact Vc.xt)) _ (verO_of hyl (hyr.ext (k0.trans (by exact Vc.xt))))).mono ?_;rintro _ H3 ⟨⟨rfl⟩,hx3⟩;have hz3:=hx3.size)|(first|(with_reducible refine Vc.DrawH.lin (id:=4) mixed ?_)|(with_reducible refine Vc.DrawL.split (es:=[]) 7 11 (by decide) (by decide) (by decide) ?_ ?_)|(with_reducible refine Vc.DrawL.held (es:=[(7,11)]) [0,1,2,3,4,5,6,7,8,9,10,11,12,13] [] (by decide+kernel) ?_)|(with_reducible refine Vc.DrawL.held (es:=[(11,7)]) [0,1,2,3,4,5,6,11,7,8,9,10,12,13] [(11,[1,6])] (by decide+kernel) ?_))|refine Vc.stp ?_)<;>(intros;(conv=>whnf)))))
   all_goals
    rename_i Hl zl bl xl H4 z4 b4 k4
    exact⟨⟨none,0,rfl,Nat.le_refl _,⟨[],Row.nil _ _,.nil⟩⟩,by first|exact(x1.trans (hx2.trans (xl.trans hx3))).but k4 (by omega)|exact(x1.trans (hx2.trans (hx3.trans xl))).but k4 (by omega)⟩
  |some j=>
   obtain⟨r,hr1,hrk,hrv⟩:=idx_some hJ
   have hnP:Why.needsP R P k=r.needs:=by rw[hnP];exact needsR_at hr1
   rw[hnP]
   ((conv=>whnf);repeat(any_goals((first|(refine SemH.mkFunc ?_)|(refine(hix _ (by exact Vc.xt)).mono ?_;rintro _ H2 ⟨rfl,hx2⟩;have hz2:=hx2.size)|(refine hixP _ _ rfl ?_)|((with_reducible apply SemH.load_ver);(exact hpv);(exact k0.trans (by exact Vc.xt));(conv=>whnf))|(refine Vc.StillsH.load rfl rfl rfl rfl rfl rfl (by first|exact SemH.load_ver hpv (k0.trans (by exact Vc.xt)) rfl|exact SemH.load_old rfl (by assumption) (by exact Vc.xt) rfl) ?_)|(refine(hfd _ (k0.trans (by exact Vc.xt)) _ (verO_of hyl (hyr.ext (k0.trans (by exact Vc.xt))))).mono ?_;rintro _ H3 ⟨⟨r',cr,hr',rfl,hcn⟩,hx3⟩;have hz3:=hx3.size;rw[hr1]at hr';have e7:=Option.some.inj hr';subst e7;have hk03:Ext H0 H3:=k0.trans (by exact Vc.xt);have hcr:=rowN_E hcn hk03;obtain⟨sa,sc,ma,mc,er,r32,hsl,hsr,hnl7,hnr7⟩:=(id hcr))|(rename_i Hl zl bl xl;first|(refine DoH.store_list (bl.ext hx3) rfl (by rw[row_ok.len hcr];rfl) (by rw[row_ok.len hcr];rfl) (row_ok.plain hcr) ?_;intro H4 z4 b4 k4;have hx4:Ext H H4:=(x1.trans (hx2.trans (xl.trans hx3))).but k4 (by omega);have hcn4:rowN H0 H4 r cr:=rowN_keep hcn k4 (fun b cc u hb hB=>by subst hb;rw[hB.typ (bl.ext hx3)];decide);have hn4:hcell H4 ⟨H2.size,0+38,none⟩=some (Value.slice ma r.needs.length mc):=blk_list b4 0 38 _ (by rw[Nat.zero_add];exact(row_last er (by rw[strV_length];exact r32)).2))|(refine DoH.store_list bl rfl (by rw[row_ok.len hcr];rfl) (by rw[row_ok.len hcr];rfl) (row_ok.plain hcr) ?_;intro H4 z4 b4 k4;have hx4:Ext H H4:=(x1.trans (hx2.trans (hx3.trans xl))).but k4 (by omega);have hcn4:rowN H0 H4 r cr:=rowN_keep hcn (xl.but k4 (Nat.le_refl _)) (fun b cc u hb _=>hb.elim);have hn4:hcell H4 ⟨H3.size,0+38,none⟩=some (Value.slice ma r.needs.length mc):=blk_list b4 0 38 _ (by rw[Nat.zero_add];exact(row_last er (by rw[strV_length];exact r32)).2)))|(first|(with_reducible refine Vc.DrawH.lin (id:=4) mixed ?_)|(with_reducible refine Vc.DrawL.split (es:=[]) 7 11 (by decide) (by decide) (by decide) ?_ ?_)|(with_reducible refine Vc.DrawL.held (es:=[(7,11)]) [0,1,2,3,4,5,6,7,8,9,10,11,12,13] [] (by decide+kernel) ?_)|(with_reducible refine Vc.DrawL.held (es:=[(11,7)]) [0,1,2,3,4,5,6,11,7,8,9,10,12,13] [(11,[1,6])] (by decide+kernel) ?_))|refine Vc.stp ?_)<;>(intros;(conv=>whnf)))))
   all_goals
    have hcE:=rowN_E hcn4 (k0.trans hx4)
    obtain⟨_,_,ma',mc',er',r32',_,_,hnl',hnr'⟩:=hcE
    have h1:=(row_last er (by rw[strV_length];exact r32)).2
    have h2:=(row_last er' (by rw[strV_length];exact r32')).2
    rw[h1]at h2
    cases h2
    exact⟨⟨ma,mc,rfl,hnl',hnr'⟩,hx4⟩
end Go.Proofs.YtjdieklgoepdjaaGreatDoor
namespace Go.Proofs.YtjdieklgoepdjaaGreatDoor
open Go Go.Vc Go.Scr Go.Slv
open Go.Why (usersF needsP usersT users_step users_len users_eq any_names)
set_option maxHeartbeats 2000000 in
theorem wuser11_any (n:NeedP) (k:Bs) (g1:Nat) (c:List Value) (H0 H:Heap) (hE:needE H0 n c) (h1:Blk H g1 #[.string (mkS k)] 9):
  CallH Tryz.prog 64 [.agg c.toArray,.pointer (some ⟨g1,0,none⟩)] H fun x H'=>x= .bool (n.name==k)∧Ext H H':=by
 obtain⟨sa,sc,ec,hsl,hsr⟩:=id hE
 have e1:((mkS n.name).toList==(mkS k).toList)=(n.name==k):=by rw[toListS,toListS]
 refine Vc.CallH.body Tryz.func64 Tryz.call64 rfl (by decide+kernel) rfl ?_
 ((conv=>whnf);repeat(any_goals((first|(refine Vc.SemH.box ?_;intro Hb zb bb xb;have hn0:hcell Hb ⟨H.size,0+0,none⟩=some (Value.string (mkS n.name)):=blk_list bb 0 0 _ (by rw[ec];rfl))|refine Vc.stp ?_)<;>(intros;(conv=>whnf)))))
 exact⟨by show Value.bool _=_;rw[e1],by exact Vc.xt⟩
set_option maxHeartbeats 2000000 in
theorem wuser1_any (l:List NeedP) (k:Bs) (g1:Nat) (a:Option Addr) (n cap:Nat) (H:Heap) (hr:RowE needE H a l) (hn:l.length=n) (hnl:n≤10000) (h1:Blk H g1 #[.string (mkS k)] 9):
  CallH Tryz.prog 62 [.slice a n cap,.pointer (some ⟨g1,0,none⟩)] H fun x H'=>x= .bool (l.any fun n=>n.name==k)∧Ext H H':=by
 refine Vc.CallH.body Tryz.func62 Tryz.call62 rfl (by decide+kernel) rfl ?_
 have hc:=fun H' (x:Ext H H')=>coneed_any l (fun n=>n.name==k) 64 (.pointer (some ⟨g1,0,none⟩)) a n cap H H' x hr hn (by omega) fun nd c H'' hm hc hk=>wuser11_any nd k g1 c H H'' hc (h1.ext (x.trans hk))
 ((conv=>whnf);repeat(any_goals((first|(refine SemH.mkFunc ?_)|(refine(hc _ (by exact Vc.xt)).mono ?_;rintro _ H2 ⟨rfl,hx2⟩)|refine Vc.stp ?_)<;>(intros;(conv=>whnf)))))
 exact⟨rfl,by exact Vc.xt⟩
set_option maxHeartbeats 8000000 in
theorem wusers_any (R:List RowP) (hRB:RowsB R) (N:List NeedP) (P:List PinP) (hs:SortP P) (hPv: ∀ p∈P,VerB p.v) (name:Bs) (ra na qa:Option Addr) (rn rc nn nc qn qc:Nat) (H:Heap) (hR:RowE rowE H ra R) (hN:RowE needE H na N) (hP:RowE pinE H qa P) (hrn:R.length=rn) (hrl:rn≤10000) (hnn:N.length=nn) (hnl:nn≤10000) (hqn:P.length=qn) (hql:qn≤10000):
  CallH Tryz.prog 26 [.slice ra rn rc,.slice na nn nc,.slice qa qn qc,.string (mkS name)] H fun x H'=>(∃ a c,x= .slice a (usersF R N P name).length c∧Row H' a (strs (usersF R N P name))∧(usersF R N P name).length≤c)∧Ext H H':=by
 have hu:=users_eq (R:=R) (N:=N) (P:=P) (name:=name)
 have hsrt:=Go.Why.users_sorted (R:=R) (N:=N) hs name
 rw[hqn]at hu
 obtain⟨F,hF⟩: ∃ F,usersF R N P name=F:=⟨_,rfl⟩
 rw[hF]at hu hsrt ⊢
 refine Vc.CallH.body Tryz.func26 Tryz.call26 rfl (by decide+kernel) rfl ?_
 ((conv=>whnf);repeat(any_goals((first|refine Vc.stp ?_)<;>(intros;(conv=>whnf)))))
 rename_i H1 z1 b1 x1
 have hhas:=fun H' (x:Ext H1 H') l a n cap (hr:RowE needE H' a l) (hn:l.length=n) (hnl:n≤10000)=>wuser1_any l name H.size a n cap H' hr hn hnl (b1.ext x)
 by_cases hmm:name∈Go.Why.namesN N
 ·have hm:(N.any fun n=>n.name==name)=true:=by rw[any_names];exact decide_eq_true hmm
  obtain⟨A0,hA0⟩: ∃ A0:List Bs,A0=[[]]:=⟨_,rfl⟩
  have hA:A0.length≤1:=by rw[hA0];decide
  have hus:F=A0++usersT R P name qn:=by rw[hu,if_pos hmm,hA0]
  ((conv=>whnf);repeat(any_goals((first|(refine SemH.mkFunc ?_)|((fail_if_success (have:=hx3));show Go.Vc.CallH _ _ _ _ _;refine(hhas _ (by exact Vc.xt) N _ _ _ (hN.ext need_ok (x1.trans (by exact Vc.xt))) hnn hnl).mono ?_;rintro _ H3 ⟨rfl,hx3⟩;rw[hm];have hz3:=hx3.size)|refine Vc.stp ?_)<;>(intros;(conv=>whnf)))))
  rename_i Hm zm bm xm
  refine NextH.push1b (v:= .string (mkS [])) bm (Own.nil Hm H1.size 9 1) (by have:=zm;omega) (by omega) rfl ⟨_,rfl,fun _ h=>by cases h⟩ rfl rfl rfl rfl rfl rfl rfl ?_
  intro a2 c2 H2 ho2 hz2 hw2
  have hx12:Ext H1 H2:=ext_wrO (n:=0) (hx3.trans xm) (fun q hq=>by cases hq) hw2
  have hx2:Ext H H2:=x1.trans hx12
  ((conv=>whnf);repeat(any_goals((first|refine Vc.stp ?_)<;>(intros;(conv=>whnf)))))
  refine LoopH.intro (fun(x:WnS)=>[(22,.int .i64 x.i),(10,.slice x.a (A0++usersT R P name x.i).length x.cap)]) (fun x H'=>x.i≤qn∧Own H' H1.size 9 1 x.a (A0++usersT R P name x.i).length x.cap (strs (A0++usersT R P name x.i))∧And True (Ext H1 H')) (fun x=>qn-x.i) ⟨0,a2,c2⟩ ⟨rfl,by show Value.slice _ _ _=Value.slice _ _ _;rw[hA0];rfl,trivial⟩ ⟨Nat.zero_le _,by dsimp only;rw[hA0];exact ho2,And.intro trivial hx12⟩ ?_
  rintro⟨i,oa,oc⟩ H4 ⟨hi,ho4,hx14⟩
  dsimp only at hi ho4 ⊢
  have hx4:=And.intro trivial (x1.trans hx14.2)
  have hz4:=hx14.2.size
  by_cases hlt:i<qn
  ·obtain⟨p,hp⟩: ∃ p,P[i]? =some p:=⟨_,List.getElem?_eq_getElem (by omega)⟩
   have hst:=users_step (R:=R) (P:=P) (name:=name) hp
   have hul:=users_len R P name i
   have hnd:=fun H' (k:Ext H H')=>wneeded_any R hRB P hPv p.name ra qa rn rc qn qc H H' k hR hrn hrl hP hqn hql
   have hnl2:=Go.Why.needsP_len hRB.needs P p.name
   have hmb:=any_names (needsP R P p.name) name
   obtain⟨L,hL⟩: ∃ L,needsP R P p.name=L:=⟨_,rfl⟩
   rw[hL]at hnd hnl2 hst hmb
   obtain⟨U,hU⟩: ∃ U,A0++usersT R P name i=U:=⟨_,rfl⟩
   have hUl:U.length≤10001:=by rw[←hU,List.length_append];omega
   rw[hU]at ho4 ⊢
   by_cases hm3:name∈Go.Why.namesN L
   ·have hst2:A0++usersT R P name (i+1)=U++[p.name]:=by rw[hst,if_pos hm3,←List.append_assoc,hU]
    have hm2:(L.any fun n=>n.name==name)=true:=by rw[hmb];exact decide_eq_true hm3
    ((conv=>whnf);repeat(any_goals((first|(refine IdxA.el pin_ok (by decide) (hP.ext pin_ok hx4.2) hqn i p rfl hp ?_;intro b o c hcP hcl;obtain⟨ya,yc,ec,h32,hyl,hyr⟩:=(id hcP))|((with_reducible apply SemH.load_el);rfl;rfl;(show 37=_;exact(pin_ok.len hcP).symm);(exact hcl);(exact Vc.xt);(conv=>whnf))|(rename_i Hl zl bl xl;refine DoH.store_list bl rfl (by exact pin_ok.len hcP) (by rw[pin_ok.len hcP];rfl) (by exact pin_ok.plain hcP) ?_;intro H5 z5 b5 k5;have hc0:hcell H5 ⟨H4.size,0+0,none⟩=some (Value.string (mkS p.name)):=(blk_list b5 0 0 _ (by rw[ec];rfl));have hx45:Ext H4 H5:=xl.but k5 (Nat.le_refl _))|((fail_if_success (have:=hx6));show Go.Vc.CallH _ _ _ _ _;refine(hnd _ (hx4.2.trans (hx45.trans (by exact Vc.xt)))).mono ?_;rintro _ H6 ⟨⟨a6,c6,rfl,hc6,hr6⟩,hx6⟩;have hz6:=hx6.size)|((fail_if_success (have:=hx7));show Go.Vc.CallH _ _ _ _ _;refine(hhas _ (hx14.2.trans (hx45.trans (by exact Vc.xt))) L _ _ _ hr6 rfl (by omega)).mono ?_;rintro _ H7 ⟨rfl,hx7⟩;rw[hm2];have hz7:=hx7.size)|(rename_i Hm zm bm xm;refine NextH.push1b bm ((ho4.ext hx45).ext (hx6.trans (hx7.trans xm))) (by omega) (by omega) rfl ⟨_,rfl,fun _ h=>by cases h⟩ rfl rfl rfl rfl rfl rfl rfl ?_;intro a8 c8 H8 ho8 hz8 hw8;have hx48:Ext H4 Hm:=hx45.trans (hx6.trans (hx7.trans xm));have hx18:Ext H1 H8:=ext_wrO (hx14.2.trans hx48) (fun q hq=>ho4.block q hq) hw8)|refine Vc.stp ?_)<;>(intros;(conv=>whnf)))))
    exact⟨⟨i+1,a8,c8⟩,⟨rfl,by show Value.slice _ _ _=Value.slice _ _ _;rw[hst2,List.length_append];rfl,trivial⟩,⟨by show i+1≤qn;omega,by dsimp only;rw[hst2];exact own_snocS rfl ho8,And.intro trivial hx18⟩,by show qn-(i+1)<qn-i;omega⟩
   ·have hst2:A0++usersT R P name (i+1)=U:=by rw[hst,if_neg hm3,List.append_nil,hU]
    have hm2:(L.any fun n=>n.name==name)=false:=by rw[hmb];exact decide_eq_false hm3
    ((conv=>whnf);repeat(any_goals((first|(refine IdxA.el pin_ok (by decide) (hP.ext pin_ok hx4.2) hqn i p rfl hp ?_;intro b o c hcP hcl;obtain⟨ya,yc,ec,h32,hyl,hyr⟩:=(id hcP))|((with_reducible apply SemH.load_el);rfl;rfl;(show 37=_;exact(pin_ok.len hcP).symm);(exact hcl);(exact Vc.xt);(conv=>whnf))|(rename_i Hl zl bl xl;refine DoH.store_list bl rfl (by exact pin_ok.len hcP) (by rw[pin_ok.len hcP];rfl) (by exact pin_ok.plain hcP) ?_;intro H5 z5 b5 k5;have hc0:hcell H5 ⟨H4.size,0+0,none⟩=some (Value.string (mkS p.name)):=(blk_list b5 0 0 _ (by rw[ec];rfl));have hx45:Ext H4 H5:=xl.but k5 (Nat.le_refl _))|((fail_if_success (have:=hx6));show Go.Vc.CallH _ _ _ _ _;refine(hnd _ (hx4.2.trans (hx45.trans (by exact Vc.xt)))).mono ?_;rintro _ H6 ⟨⟨a6,c6,rfl,hc6,hr6⟩,hx6⟩;have hz6:=hx6.size)|((fail_if_success (have:=hx7));show Go.Vc.CallH _ _ _ _ _;refine(hhas _ (hx14.2.trans (hx45.trans (by exact Vc.xt))) L _ _ _ hr6 rfl (by omega)).mono ?_;rintro _ H7 ⟨rfl,hx7⟩;rw[hm2];have hz7:=hx7.size)|refine Vc.stp ?_)<;>(intros;(conv=>whnf)))))
    have hx47:Ext H4 H7:=hx45.trans (by exact Vc.xt)
    exact⟨⟨i+1,oa,oc⟩,⟨rfl,by show Value.slice _ _ _=Value.slice _ _ _;rw[hst2],trivial⟩,⟨by show i+1≤qn;omega,by dsimp only;rw[hst2];exact ho4.ext hx47,And.intro trivial (hx14.2.trans hx47)⟩,by show qn-(i+1)<qn-i;omega⟩
  ·obtain rfl:i=qn:=by omega
   rw[←hus]at ho4 ⊢
   have hFl:F.length≤10001:=by have:=users_len R P name i;rw[hus,List.length_append];omega
   have hcl:=ho4.cap_le
   cases oa with
   |none=>
    have hF0:F.length=0:=by
     rcases ho4.out with ⟨_,h,_⟩|⟨g,cur,h,_⟩
     ·exact h
     ·cases h
    rw[hF0]
    ((conv=>whnf);repeat(any_goals((first|(refine(sort0_any _ _ _).mono ?_;rintro _ _ ⟨rfl,rfl⟩)|refine Vc.stp ?_)<;>(intros;(conv=>whnf)))))
    exact⟨⟨none,oc,rfl,ho4.row,Nat.zero_le _⟩,hx4.2⟩
   |some q=>
    obtain⟨g,hg0⟩: ∃ g,q=⟨g,0,none⟩:=by
     rcases ho4.out with ⟨h,_⟩|⟨g,cur,h,_⟩
     ·cases h
     ·cases h;exact⟨g,rfl⟩
    subst hg0
    ((conv=>whnf);repeat(any_goals((first|refine Vc.stp ?_)<;>(intros;(conv=>whnf)))))
    refine(sorts_any F g F.length oc H1.size _ ho4 rfl (by omega)).mono ?_
    rintro _ H5 ⟨rfl,⟨l',hp',hs',ho'⟩,hw'⟩
    have hx15:Ext H1 H5:=hx14.2.wr ho4 (Nat.le_refl _) hw'
    have hll:l'=F:=Go.Why.sort_one hp' hs' hsrt
    subst hll
    ((conv=>whnf);repeat(any_goals((first|refine Vc.stp ?_)<;>(intros;(conv=>whnf)))))
    exact⟨⟨_,oc,rfl,ho'.row,hcl⟩,x1.trans hx15⟩
 ·have hm:(N.any fun n=>n.name==name)=false:=by rw[any_names];exact decide_eq_false hmm
  obtain⟨A0,hA0⟩: ∃ A0:List Bs,A0=[]:=⟨_,rfl⟩
  have hA:A0.length≤1:=by rw[hA0];decide
  have hus:F=A0++usersT R P name qn:=by rw[hu,if_neg hmm,hA0]
  ((conv=>whnf);repeat(any_goals((first|(refine SemH.mkFunc ?_)|((fail_if_success (have:=hx3));show Go.Vc.CallH _ _ _ _ _;refine(hhas _ (by exact Vc.xt) N _ _ _ (hN.ext need_ok (x1.trans (by exact Vc.xt))) hnn hnl).mono ?_;rintro _ H3 ⟨rfl,hx3⟩;rw[hm];have hz3:=hx3.size)|refine Vc.stp ?_)<;>(intros;(conv=>whnf)))))
  have hx12:Ext H1 H3:=hx3
  have hx2:Ext H H3:=x1.trans hx12
  refine LoopH.intro (fun(x:WnS)=>[(22,.int .i64 x.i),(10,.slice x.a (A0++usersT R P name x.i).length x.cap)]) (fun x H'=>x.i≤qn∧Own H' H1.size 9 1 x.a (A0++usersT R P name x.i).length x.cap (strs (A0++usersT R P name x.i))∧And True (Ext H1 H')) (fun x=>qn-x.i) ⟨0,none,0⟩ ⟨rfl,by show Value.slice _ _ _=Value.slice _ _ _;rw[hA0];rfl,trivial⟩ ⟨Nat.zero_le _,by dsimp only;rw[hA0];exact Own.nil _ _ _ _,And.intro trivial hx12⟩ ?_
  rintro⟨i,oa,oc⟩ H4 ⟨hi,ho4,hx14⟩
  dsimp only at hi ho4 ⊢
  have hx4:=And.intro trivial (x1.trans hx14.2)
  have hz4:=hx14.2.size
  by_cases hlt:i<qn
  ·obtain⟨p,hp⟩: ∃ p,P[i]? =some p:=⟨_,List.getElem?_eq_getElem (by omega)⟩
   have hst:=users_step (R:=R) (P:=P) (name:=name) hp
   have hul:=users_len R P name i
   have hnd:=fun H' (k:Ext H H')=>wneeded_any R hRB P hPv p.name ra qa rn rc qn qc H H' k hR hrn hrl hP hqn hql
   have hnl2:=Go.Why.needsP_len hRB.needs P p.name
   have hmb:=any_names (needsP R P p.name) name
   obtain⟨L,hL⟩: ∃ L,needsP R P p.name=L:=⟨_,rfl⟩
   rw[hL]at hnd hnl2 hst hmb
   obtain⟨U,hU⟩: ∃ U,A0++usersT R P name i=U:=⟨_,rfl⟩
   have hUl:U.length≤10001:=by rw[←hU,List.length_append];omega
   rw[hU]at ho4 ⊢
   by_cases hm3:name∈Go.Why.namesN L
   ·have hst2:A0++usersT R P name (i+1)=U++[p.name]:=by rw[hst,if_pos hm3,←List.append_assoc,hU]
    have hm2:(L.any fun n=>n.name==name)=true:=by rw[hmb];exact decide_eq_true hm3
    ((conv=>whnf);repeat(any_goals((first|(refine IdxA.el pin_ok (by decide) (hP.ext pin_ok hx4.2) hqn i p rfl hp ?_;intro b o c hcP hcl;obtain⟨ya,yc,ec,h32,hyl,hyr⟩:=(id hcP))|((with_reducible apply SemH.load_el);rfl;rfl;(show 37=_;exact(pin_ok.len hcP).symm);(exact hcl);(exact Vc.xt);(conv=>whnf))|(rename_i Hl zl bl xl;refine DoH.store_list bl rfl (by exact pin_ok.len hcP) (by rw[pin_ok.len hcP];rfl) (by exact pin_ok.plain hcP) ?_;intro H5 z5 b5 k5;have hc0:hcell H5 ⟨H4.size,0+0,none⟩=some (Value.string (mkS p.name)):=(blk_list b5 0 0 _ (by rw[ec];rfl));have hx45:Ext H4 H5:=xl.but k5 (Nat.le_refl _))|((fail_if_success (have:=hx6));show Go.Vc.CallH _ _ _ _ _;refine(hnd _ (hx4.2.trans (hx45.trans (by exact Vc.xt)))).mono ?_;rintro _ H6 ⟨⟨a6,c6,rfl,hc6,hr6⟩,hx6⟩;have hz6:=hx6.size)|((fail_if_success (have:=hx7));show Go.Vc.CallH _ _ _ _ _;refine(hhas _ (hx14.2.trans (hx45.trans (by exact Vc.xt))) L _ _ _ hr6 rfl (by omega)).mono ?_;rintro _ H7 ⟨rfl,hx7⟩;rw[hm2];have hz7:=hx7.size)|(rename_i Hm zm bm xm;refine NextH.push1b bm ((ho4.ext hx45).ext (hx6.trans (hx7.trans xm))) (by omega) (by omega) rfl ⟨_,rfl,fun _ h=>by cases h⟩ rfl rfl rfl rfl rfl rfl rfl ?_;intro a8 c8 H8 ho8 hz8 hw8;have hx48:Ext H4 Hm:=hx45.trans (hx6.trans (hx7.trans xm));have hx18:Ext H1 H8:=ext_wrO (hx14.2.trans hx48) (fun q hq=>ho4.block q hq) hw8)|refine Vc.stp ?_)<;>(intros;(conv=>whnf)))))
    exact⟨⟨i+1,a8,c8⟩,⟨rfl,by show Value.slice _ _ _=Value.slice _ _ _;rw[hst2,List.length_append];rfl,trivial⟩,⟨by show i+1≤qn;omega,by dsimp only;rw[hst2];exact own_snocS rfl ho8,And.intro trivial hx18⟩,by show qn-(i+1)<qn-i;omega⟩
   ·have hst2:A0++usersT R P name (i+1)=U:=by rw[hst,if_neg hm3,List.append_nil,hU]
    have hm2:(L.any fun n=>n.name==name)=false:=by rw[hmb];exact decide_eq_false hm3
    ((conv=>whnf);repeat(any_goals((first|(refine IdxA.el pin_ok (by decide) (hP.ext pin_ok hx4.2) hqn i p rfl hp ?_;intro b o c hcP hcl;obtain⟨ya,yc,ec,h32,hyl,hyr⟩:=(id hcP))|((with_reducible apply SemH.load_el);rfl;rfl;(show 37=_;exact(pin_ok.len hcP).symm);(exact hcl);(exact Vc.xt);(conv=>whnf))|(rename_i Hl zl bl xl;refine DoH.store_list bl rfl (by exact pin_ok.len hcP) (by rw[pin_ok.len hcP];rfl) (by exact pin_ok.plain hcP) ?_;intro H5 z5 b5 k5;have hc0:hcell H5 ⟨H4.size,0+0,none⟩=some (Value.string (mkS p.name)):=(blk_list b5 0 0 _ (by rw[ec];rfl));have hx45:Ext H4 H5:=xl.but k5 (Nat.le_refl _))|((fail_if_success (have:=hx6));show Go.Vc.CallH _ _ _ _ _;refine(hnd _ (hx4.2.trans (hx45.trans (by exact Vc.xt)))).mono ?_;rintro _ H6 ⟨⟨a6,c6,rfl,hc6,hr6⟩,hx6⟩;have hz6:=hx6.size)|((fail_if_success (have:=hx7));show Go.Vc.CallH _ _ _ _ _;refine(hhas _ (hx14.2.trans (hx45.trans (by exact Vc.xt))) L _ _ _ hr6 rfl (by omega)).mono ?_;rintro _ H7 ⟨rfl,hx7⟩;rw[hm2];have hz7:=hx7.size)|refine Vc.stp ?_)<;>(intros;(conv=>whnf)))))
    have hx47:Ext H4 H7:=hx45.trans (by exact Vc.xt)
    exact⟨⟨i+1,oa,oc⟩,⟨rfl,by show Value.slice _ _ _=Value.slice _ _ _;rw[hst2],trivial⟩,⟨by show i+1≤qn;omega,by dsimp only;rw[hst2];exact ho4.ext hx47,And.intro trivial (hx14.2.trans hx47)⟩,by show qn-(i+1)<qn-i;omega⟩
  ·obtain rfl:i=qn:=by omega
   rw[←hus]at ho4 ⊢
   have hFl:F.length≤10001:=by have:=users_len R P name i;rw[hus,List.length_append];omega
   have hcl:=ho4.cap_le
   cases oa with
   |none=>
    have hF0:F.length=0:=by
     rcases ho4.out with ⟨_,h,_⟩|⟨g,cur,h,_⟩
     ·exact h
     ·cases h
    rw[hF0]
    ((conv=>whnf);repeat(any_goals((first|(refine(sort0_any _ _ _).mono ?_;rintro _ _ ⟨rfl,rfl⟩)|refine Vc.stp ?_)<;>(intros;(conv=>whnf)))))
    exact⟨⟨none,oc,rfl,ho4.row,Nat.zero_le _⟩,hx4.2⟩
   |some q=>
    obtain⟨g,hg0⟩: ∃ g,q=⟨g,0,none⟩:=by
     rcases ho4.out with ⟨h,_⟩|⟨g,cur,h,_⟩
     ·cases h
     ·cases h;exact⟨g,rfl⟩
    subst hg0
    ((conv=>whnf);repeat(any_goals((first|refine Vc.stp ?_)<;>(intros;(conv=>whnf)))))
    refine(sorts_any F g F.length oc H1.size _ ho4 rfl (by omega)).mono ?_
    rintro _ H5 ⟨rfl,⟨l',hp',hs',ho'⟩,hw'⟩
    have hx15:Ext H1 H5:=hx14.2.wr ho4 (Nat.le_refl _) hw'
    have hll:l'=F:=Go.Why.sort_one hp' hs' hsrt
    subst hll
    ((conv=>whnf);repeat(any_goals((first|refine Vc.stp ?_)<;>(intros;(conv=>whnf)))))
    exact⟨⟨_,oc,rfl,ho'.row,hcl⟩,x1.trans hx15⟩
end Go.Proofs.YtjdieklgoepdjaaGreatDoor
namespace Go.Proofs.YtjdieklgoepdjaaGreatDoor
open Go Go.Vc Go.Scr Go.Slv
open Go.Why (pathF nextN needsP namesN allN bfs goL goN endR contL LevI FuelI)
set_option maxHeartbeats 2000000 in
theorem wpath1_any (p:PinP) (k:Bs) (g1:Nat) (c:List Value) (H0 H:Heap) (hE:pinE H0 p c) (h1:Blk H g1 #[.string (mkS k)] 9):
  CallH Tryz.prog 54 [.agg c.toArray,.pointer (some ⟨g1,0,none⟩)] H fun x H'=>x= .bool (p.name==k)∧Ext H H':=by
 obtain⟨pa,pc,ec,h32,hpl,hpr⟩:=id hE
 have e1:((mkS p.name).toList==(mkS k).toList)=(p.name==k):=by rw[toListS,toListS]
 refine Vc.CallH.body Tryz.func54 Tryz.call54 rfl (by decide+kernel) rfl ?_
 ((conv=>whnf);repeat(any_goals((first|(refine Vc.SemH.box ?_;intro Hb zb bb xb;have hn0:hcell Hb ⟨H.size,0+0,none⟩=some (Value.string (mkS p.name)):=blk_list bb 0 0 _ (by rw[ec];rfl))|refine Vc.stp ?_)<;>(intros;(conv=>whnf)))))
 exact⟨by show Value.bool _=_;rw[e1],by exact Vc.xt⟩
set_option maxHeartbeats 2000000 in
theorem wnext_any (R:List RowP) (hRB:RowsB R) (N:List NeedP) (P:List PinP) (hPv: ∀ p∈P,VerB p.v) (path:List Bs) (pa ra na qa:Option Addr) (rn rc nn nc qn qc n pc g0 g1 g2:Nat) (H0 H:Heap) (k0:Ext H0 H) (hR:RowE rowE H0 ra R) (hN:RowE needE H0 na N) (hP:RowE pinE H0 qa P) (hrn:R.length=rn) (hrl:rn≤10000) (hnn:N.length=nn) (hnl:nn≤1000) (hqn:P.length=qn) (hql:qn≤10000) (hpn:path.length=n) (hpl:n≤1000000)
  (b0:Blk H g0 #[.slice ra rn rc] 26) (b1:Blk H g1 #[.slice na nn nc] 30) (b2:Blk H g2 #[.slice qa qn qc] 32) (hp:Row H pa (strs path)):
  CallH Tryz.prog 55 [.slice pa n pc,.pointer (some ⟨g1,0,none⟩),.pointer (some ⟨g0,0,none⟩),.pointer (some ⟨g2,0,none⟩)] H fun x H'=>(∃ a c,x= .slice a (nextN R N P path).length c∧Own H' H.size 9 1 a (nextN R N P path).length c (strs (nextN R N P path)))∧Ext H H':=by
 refine Vc.CallH.body Tryz.func55 Tryz.call55 rfl (by decide+kernel) rfl ?_
 cases n with
 |zero=>
  have e:nextN R N P path=namesN N:=by
   have:path=[]:=List.eq_nil_of_length_eq_zero hpn
   subst this;rfl
  rw[e]
  ((conv=>whnf);repeat(any_goals((first|(refine(wnames_any N na nn nc _ (hN.ext need_ok (k0.trans (by exact Vc.xt))) hnn (by omega)).mono ?_;rintro _ H2 ⟨⟨a2,c2,rfl,ho2⟩,hx2⟩)|refine Vc.stp ?_)<;>(intros;(conv=>whnf)))))
  exact⟨⟨a2,c2,rfl,ho2⟩,hx2⟩
 |succ m=>
  obtain⟨k,hk⟩: ∃ k,path[m]? =some k:=⟨_,List.getElem?_eq_getElem (by omega)⟩
  have hlast:path.getLast? =some k:=by rw[List.getLast?_eq_getElem?,hpn];exact hk
  have e:nextN R N P path=namesN (needsP R P k):=by unfold Go.Why.nextN;rw[hlast]
  have hl:=Go.Why.needsP_len hRB.needs P k
  rw[e]
  obtain⟨L,hL⟩: ∃ L,needsP R P k=L:=⟨_,rfl⟩
  have hnd:=fun H' (k':Ext H0 H')=>wneeded_any R hRB P hPv k ra qa rn rc qn qc H0 H' k' hR hrn hrl hP hqn hql
  rw[hL]at hnd hl ⊢
  ((conv=>whnf);repeat(any_goals((first|(refine IdxA.strv hp hpn m k (by omega) hk ?_;intro _ _ _ _ _)|(refine(hnd _ (k0.trans (by exact Vc.xt))).mono ?_;rintro _ H2 ⟨⟨a2,c2,rfl,hc2,hr2⟩,hx2⟩;have hz2:=hx2.size)|(refine(wnames_any L a2 _ c2 _ hr2 rfl (by omega)).mono ?_;rintro _ H3 ⟨⟨a3,c3,rfl,ho3⟩,hx3⟩;have hz3:=hx3.size)|refine Vc.stp ?_)<;>(intros;(conv=>whnf)))))
  exact⟨⟨a3,c3,rfl,ho3.base (by omega)⟩,by exact Vc.xt⟩
structure PaS where
 lv:List (List Txt)
 a:Option Addr
 cap:Nat
 seen:List Txt
 T:Nat
 f:Nat
structure PbS where
 i:Nat
 deep:List (List Txt)
 a:Option Addr
 cap:Nat
 seen:List Txt
 T:Nat
set_option maxHeartbeats 8000000 in
theorem wpath_any (R:List RowP) (hRB:RowsB R) (hRl:R.length≤200) (N:List NeedP) (P:List PinP) (hPv: ∀ p∈P,VerB p.v) (name:Bs) (ra na qa:Option Addr) (rn rc nn nc qn qc:Nat) (H:Heap) (hR:RowE rowE H ra R) (hN:RowE needE H na N) (hP:RowE pinE H qa P) (hrn:R.length=rn) (hnn:N.length=nn) (hnl:nn≤1000) (hqn:P.length=qn) (hql:qn≤10000):
  CallH Tryz.prog 24 [.slice ra rn rc,.slice na nn nc,.slice qa qn qc,.string (mkS name)] H fun x H'=>(∃ a c,x= .slice a (pathF R N P name).length c∧(pathF R N P name).length≤c∧Row H' a (strs (pathF R N P name)))∧Ext H H':=by
 have hF0:pathF R N P name=if P.any (fun p=>p.name==name)then bfs R N P name ((allN R N).length+2) [[]] []else []:=rfl
 obtain⟨F,hF⟩: ∃ F,pathF R N P name=F:=⟨_,rfl⟩
 rw[hF]at hF0 ⊢
 have hall:=Go.Why.allN_len hRB.needs hRl (N:=N) (by omega)
 refine Vc.CallH.body Tryz.func24 Tryz.call24 rfl (by decide+kernel) rfl ?_
 ((conv=>whnf);repeat(any_goals((first|(refine SemH.mkFunc ?_)|refine Vc.stp ?_)<;>(intros;(conv=>whnf)))))
 rename_i H1 z1 b1 x1 H2 z2 b2 x2 H3 z3 b3 x3 H4 z4 b4 x4
 have hx4:Ext H H4:=x1.trans (x2.trans (x3.trans x4))
 have b14:Blk H4 H.size #[.slice ra rn rc] 26:=b1.ext (x2.trans (x3.trans x4))
 have b24:Blk H4 H1.size #[.slice na nn nc] 30:=b2.ext (x3.trans x4)
 have b34:Blk H4 H2.size #[.slice qa qn qc] 32:=b3.ext x4
 have b44:Blk H4 H3.size #[.string (mkS name)] 9:=b4
 clear b1 b2 b3 b4
 refine(copin_any P (fun p=>p.name==name) 54 (.pointer (some ⟨H3.size,0,none⟩)) qa qn qc H H4 hx4 hP hqn (by omega) fun p c H'' hm hc hk=>wpath1_any p name H3.size c H H'' hc (b44.ext hk)).mono ?_
 rintro _ H5 ⟨rfl,hx5⟩
 have hz5:=hx5.size
 by_cases hany:P.any (fun p=>p.name==name)=true
 ·rw[if_pos hany]at hF0
  rw[hany]
  ((conv=>whnf);repeat(any_goals((first|(refine SemH.makeMap0 ?_;intro H6 z6 m6 x6)|((with_reducible apply SemH.lit (vs:=[.slice none 0 0]));rfl;rfl;rfl;rfl;rfl;rfl;rfl;(intro H7 z7 b7 x7;(conv=>whnf)))|(refine SemH.mkFunc ?_)|refine Vc.stp ?_)<;>(intros;(conv=>whnf)))))
  have m7:MapO H7 H5.size []:=m6.ext x7
  have x47:Ext H4 H7:=hx5.trans (x6.trans x7)
  have b17:=b14.ext x47
  have b27:=b24.ext x47
  have b37:=b34.ext x47
  have b47:=b44.ext x47
  have hx7:=And.intro trivial (hx4.trans x47)
  have hlv7:RowL wayT 37 H7 (some ⟨H6.size,0,none⟩) [[]]:=⟨[.slice none 0 0],⟨Blk.row b7,fun _ p hp=>by cases hp;exact⟨_,b7⟩⟩,LstV.one ⟨none,0,rfl,Nat.le_refl _,RowT.nil _ _ _⟩⟩
  have hC7:CntO (allN R N) H7 H5.size [] 0:=⟨⟨fun _=>none,IntO.nil m7,fun k j h=>(by cases h),fun k h=>(by cases h)⟩,List.nodup_nil,fun k h=>(by cases h)⟩
  clear b14 b24 b34 b44 x47 x6 x7 m6 b7 hx5 x1 x2 x3 x4 hx4
  refine LoopH.intro (fun(x:PaS)=>[(10,.slice x.a x.lv.length x.cap)]) (fun x H'=>But H5.size H7 H'∧RowL wayT 37 H' x.a x.lv∧x.lv.length≤x.cap∧CntO (allN R N) H' H5.size x.seen x.T∧FuelI R N x.seen x.lv x.f∧bfs R N P name x.f x.lv x.seen=F∧x.T+1000*x.lv.length≤1000*(x.seen.length+1)∧ ∀ w∈x.lv,w.length≤x.seen.length) (fun x=>x.f) ⟨[[]],some ⟨H6.size,0,none⟩,1,[],0,(allN R N).length+2⟩ ⟨rfl,trivial⟩ ⟨Only.refl _ _,hlv7,Nat.le_refl _,hC7,Go.Why.fuel_start R N,hF0.symm,by simp,by simp⟩ ?_
  clear hlv7 hC7
  rintro⟨lv,la,lc,seen,T,f⟩ H8 ⟨hk8,hlv,hlc,hC8,hfu,hbf,hT8,hw8⟩
  dsimp only at hlv hlc hC8 hfu hbf hT8 hw8 ⊢
  have hz8:=hk8.size
  have hx8:=And.intro trivial (hx7.2.but hk8 (by omega))
  rcases lv with _|⟨x0,l0⟩
  ·have hFn:F=[]:=by rw[←hbf,Go.Why.bfs_nil]
   have hl0:([]:List (List Txt)).length=0:=rfl
   rw[hFn,hl0]
   ((conv=>whnf);repeat(any_goals((first|refine Vc.stp ?_)<;>(intros;(conv=>whnf)))))
   exact⟨⟨none,0,rfl,Nat.le_refl _,Row.nil _ _⟩,hx8.2⟩
  ·obtain⟨g,rfl,hfg⟩:=hfu.pos
   rw[Go.Why.bfs_cons]at hbf
   have hpos:0<(x0::l0).length:=by simp
   have hlev0:=hfu.lev
   clear hfu
   obtain⟨lv,hlve⟩: ∃ lv,x0::l0=lv:=⟨_,rfl⟩
   rw[hlve]at hlv hlc hT8 hw8 hbf hpos ⊢
   clear hlve
   obtain⟨G,hG⟩: ∃ G,goL R N P name lv seen []=G:=⟨_,rfl⟩
   rw[hG]at hbf
   have hll:lv.length≤1000000:=by
    have:=hC8.nodup
    have:=nodup_len hC8.nodup hC8.sub
    omega
   have hmc0: ∃ m0,MapO H8 H5.size m0:=by
    obtain⟨_,⟨l0,h0,_⟩,_⟩:=hC8.out
    exact⟨l0,h0⟩
   obtain⟨m0,hm0⟩:=hmc0
   ((conv=>whnf);repeat(any_goals((first|refine Vc.stp ?_)<;>(intros;(conv=>whnf)))))
   refine LoopH.intro (fun(x:PbS)=>[(30,.int .i64 x.i),(12,.slice x.a x.deep.length x.cap)]) (fun x H'=>x.i≤lv.length∧But H5.size H8 H'∧OwnE wayT 1 H' H8.size 37 x.a x.deep x.cap∧CntO (allN R N) H' H5.size x.seen x.T∧LevI R N seen.length x.seen x.deep∧goL R N P name (lv.drop x.i) x.seen x.deep=G∧x.T+1000*((lv.length-x.i)+x.deep.length)≤1000*(x.seen.length+1)∧ ∀ w∈x.deep,w.length≤x.seen.length) (fun x=>lv.length-x.i) ⟨0,[],none,0,seen,T⟩ ⟨rfl,rfl,trivial⟩ ⟨Nat.zero_le _,Only.refl _ _,OwnE.nil _ _ _ _ _,hC8,hlev0,hG,by simpa using hT8,by simp⟩ ?_
   clear hlev0 hG hT8
   rintro⟨i,deep,da,dc,seen1,T1⟩ H9 ⟨hi,hk9,hd9,hC9,hlev,hgo,hT9,hw9⟩
   dsimp only at hi hd9 hC9 hlev hgo hT9 hw9 ⊢
   have hz9:=hk9.size
   have hk79:=Only.trans hk8 hk9 fun _ _ h=>h
   have hx9:=And.intro trivial (hx8.2.but hk9 (by omega))
   by_cases hlt:i<lv.length
   ·obtain⟨path,hpath⟩: ∃ path,lv[i]? =some path:=⟨_,List.getElem?_eq_getElem hlt⟩
    have hL9:RowE wayT H9 la lv:=(hlv.keep wayT_ok hk9 fun b c u hb hB _=>by subst hb;exact absurd rfl (hm0.ne hB)).to fun _ _ h=>h
    have hpl1:=hw8 path (List.mem_of_getElem? hpath)
    have hle:=hlev.le
    have hsl1:=nodup_len hC9.nodup hC9.sub
    obtain⟨ks,hks⟩: ∃ ks,nextN R N P path=ks:=⟨_,rfl⟩
    have hkl:=Go.Why.nextN_len hRB.needs (N:=N) (by omega) P path
    have hnx:=fun pa pc (hp:Row H9 pa (strs path))=>wnext_any R hRB N P hPv path pa ra na qa rn rc nn nc qn qc path.length pc H.size H1.size H2.size H H9 hx9.2 hR hN hP hrn (by omega) hnn hnl hqn hql rfl (by omega) (b17.but hk79 (by omega)) (b27.but hk79 (by omega)) (b37.but hk79 (by omega)) hp
    rw[Go.Why.goL_at hpath]at hgo
    rw[hks]at hnx hkl hgo
    ((conv=>whnf);repeat(any_goals((first|(refine IdxA.el wayT_ok.ok (by decide) hL9 rfl i path rfl hpath ?_;intro b o c hcW hcl;obtain⟨pa,pc,ec,hpc,hpr⟩:=(id hcW);have hc0:hcell H9 ⟨b,o,none⟩=some (Value.slice pa path.length pc):=(by have:=hcl 0 _ (by rw[ec];rfl);exact this))|((fail_if_success (have:=hko));show Go.Vc.CallH _ _ _ _ _;refine(hnx _ _ hpr.row).mono ?_;rintro _ H10 ⟨⟨ka,kc,rfl,hko⟩,hx10⟩;have hz10:=hx10.size)|refine Vc.stp ?_)<;>(intros;(conv=>whnf)))))
    have hxA:=And.intro trivial (hx9.2.trans hx10)
    have hprA:=hpr.ext hx10
    have hkoA:=hko.rowT
    have hmcA0: ∃ m0,MapO H10 H5.size m0:=by
     obtain⟨_,⟨l0,h0,_⟩,_⟩:=hC9.out
     exact⟨l0,h0.ext hx10⟩
    obtain⟨m1,hmA⟩:=hmcA0
    have b4A:=(b47.but hk79 (by omega)).ext hx10
    have hCA:=hC9.keep hx10 id
    have hdA:=hd9.ext wayT_ok.ok hx10
    have hk7A:=Only.trans hk79 hx10 fun _ _ h=>h.elim
    have hk8A:=Only.trans hk9 hx10 fun _ _ h=>h.elim
    clear hko hnx hpr hC9 hd9 hL9
    refine LoopH.intro (fun(x:PbS)=>[(38,.int .i64 x.i),(12,.slice x.a x.deep.length x.cap)]) (fun x H'=>x.i≤ks.length∧But H5.size H8 H'∧RowT 9 H' ka (strs ks)∧RowT 9 H' pa (strs path)∧OwnE wayT 1 H' H8.size 37 x.a x.deep x.cap∧CntO (allN R N) H' H5.size x.seen x.T∧LevI R N seen.length x.seen x.deep∧contL R N P name (lv.drop (i+1)) (goN name path (ks.drop x.i) x.seen x.deep)=G∧x.T+1000*((lv.length-(i+1))+x.deep.length)+1000≤1000*(x.seen.length+1)+x.i∧(∀ w∈x.deep,w.length≤x.seen.length)∧path.length≤x.seen.length) (fun x=>ks.length-x.i) ⟨0,deep,da,dc,seen1,T1⟩ ⟨rfl,rfl,trivial⟩ ⟨Nat.zero_le _,hk8A,hkoA,hprA,hdA,hCA,hlev,hgo,by show T1+1000*((lv.length-(i+1))+deep.length)+1000≤1000*(seen1.length+1)+0;omega,hw9,by show path.length≤seen1.length;have:=hlev.le;omega⟩ ?_
    clear hdA hCA hlev hgo hT9 hw9
    rintro⟨j,dp,a2,c2,s2,T2⟩ H11 ⟨hj,hk11,hkr,hpr11,hd11,hC11,hlev2,hgo2,hT11,hw11,hps⟩
    dsimp only at hj hd11 hC11 hlev2 hgo2 hT11 hw11 hps ⊢
    have hz11:=hk11.size
    have hx11:=And.intro trivial (hx8.2.but hk11 (by omega))
    by_cases hjlt:j<ks.length
    ·obtain⟨k,hk⟩: ∃ k,ks[j]? =some k:=⟨_,List.getElem?_eq_getElem hjlt⟩
     obtain⟨cf,⟨lc',hmc,hlc'⟩,hc2,hc3⟩:=hC11.out
     have hsl2:=nodup_len hC11.nodup hC11.sub
     have b411:=b47.but (Only.trans hk8 hk11 fun _ _ h=>h) (by omega)
     have hkm:k∈nextN R N P path:=by rw[hks];exact List.mem_of_getElem? hk
     rw[Go.Why.goN_at hk]at hgo2
     by_cases hsn:k∈s2
     ·rw[if_pos hsn]at hgo2
      obtain⟨jv,hjv⟩:=hc3 _ hsn
      have hjb:=hc2 _ _ hjv
      have hgk:(mget lc' k).getD (.int .i64 0)= .int .i64 jv:=by rw[hlc',hjv];rfl
      have hgk4:(mget (mput lc' k (.int .i64 (jv+1))) k).getD (.int .i64 0)= .int .i64 (jv+1):=by rw[mget_put,if_pos rfl];rfl
      ((conv=>whnf);repeat(any_goals((first|(refine IdxA.strv hkr.row rfl j k rfl hk ?_;intro _ _ _ _ _)|((with_reducible apply SemH.lookV);(exact hmc);rfl;rfl;rfl;rfl;(exact hgk);(conv=>whnf))|((fail_if_success (have:=m12));refine DoH.mapPut hmc rfl rfl ?_;intro H12 z12 m12 k12)|((with_reducible apply SemH.lookV);(exact m12);rfl;rfl;rfl;rfl;(exact hgk4);(conv=>whnf))|refine Vc.stp ?_)<;>(intros;(conv=>whnf)))))
      have hC12:CntO (allN R N) H12 H5.size s2 (T2+1):=CntO.old hlc' hc2 hc3 hC11.nodup hC11.sub hsn ⟨by omega,by omega⟩ m12
      have hd12:=hd11.keep wayT_ok k12 (fun b c u hb hB _=>by subst hb;exact absurd rfl (hmc.ne hB)) (hd11.not_map hmc)
      exact⟨⟨j+1,dp,a2,c2,s2,T2+1⟩,⟨rfl,rfl,trivial⟩,⟨by show j+1≤ks.length;omega,Only.trans hk11 k12 fun _ _ h=>h,hkr.keep k12 fun b c u hb hB hu=>by subst hb;exact absurd rfl (hmc.ne hB),hpr11.keep k12 fun b c u hb hB hu=>by subst hb;exact absurd rfl (hmc.ne hB),hd12,hC12,hlev2,hgo2,by show T2+1+1000*((lv.length-(i+1))+dp.length)+1000≤1000*(s2.length+1)+(j+1);omega,hw11,hps⟩,by show ks.length-(j+1)<ks.length-j;omega⟩
     ·rw[if_neg hsn]at hgo2
      have hcn:cf k=none:=by
       cases e:cf k with
       |none=>rfl
       |some j=>exact absurd (hc2 _ _ e).2.2 hsn
      have hgk:(mget lc' k).getD (.int .i64 0)= .int .i64 0:=by rw[hlc',hcn];rfl
      have hgk4:(mget (mput lc' k (.int .i64 (0+1))) k).getD (.int .i64 0)= .int .i64 (0+1):=by rw[mget_put,if_pos rfl];rfl
      have hcl:=fun H' (hr:Row H' pa (strs path))=>cloneS_any str_ok path pa path.length pc H' hr.strE rfl (by omega)
      ((conv=>whnf);repeat(any_goals((first|(refine IdxA.strv hkr.row rfl j k rfl hk ?_;intro _ _ _ _ _)|((with_reducible apply SemH.lookV);(exact hmc);rfl;rfl;rfl;rfl;(exact hgk);(conv=>whnf))|((fail_if_success (have:=m12));refine DoH.mapPut hmc rfl rfl ?_;intro H12 z12 m12 k12;have hpr12:RowT 9 H12 pa (strs path):=(hpr11.keep k12 fun b c u hb hB hu=>by subst hb;exact absurd rfl (hmc.ne hB)))|((with_reducible apply SemH.lookV);(exact m12);rfl;rfl;rfl;rfl;(exact hgk4);(conv=>whnf))|(show Go.Vc.CallH _ _ _ _ _;refine(hcl _ hpr12.row).mono ?_;rintro _ H13 ⟨⟨wa0,wc0,rfl,ho13⟩,hx13⟩;have hz13:=hx13.size)|refine Vc.stp ?_)<;>(intros;(conv=>whnf)))))
      rename_i Hm zm bm xm
      refine NextH.appE (ws:=[.string (mkS k)]) (l2:=[k]) str_ok rfl ⟨_,rfl,fun _ h=>by cases h⟩ rfl rfl rfl rfl (by decide) id (ho13.ext str_ok.ok xm) rfl (Blk.row bm) (LstV.one rfl) rfl (by omega) (by omega) ?_
      intro wa wc H15 ho15 hw15 hf15
      have hx1215:Ext H12 H15:=ext_wr2 (n:=Hm.size) (hx13.trans xm) (fun p hp=>⟨(ho13.block p hp).1,((ho13.ext str_ok.ok xm).block p hp).2⟩) hw15
      have hz15:=hx1215.size
      have hwl:(path++[k]).length=path.length+1:=by simp
      have hwr:RowT 9 H15 wa (strs (path++[k])):=by
       obtain⟨vs,h1,h2⟩:=ho15.out
       rw[h2.strs_eq]at h1;exact h1.rowT
      have hwc:=ho15.cap_le
      rw[hwl]at hwc
      have b415:=(b411.but k12 (by omega)).ext hx1215
      have hx1115:=Only.trans k12 hx1215 fun _ _ h=>h.elim
      have hk815:=Only.trans hk11 hx1115 fun _ _ h=>h
      have hx15:=And.intro trivial (hx8.2.but hk815 (by omega))
      have e1:((mkS k).toList==(mkS name).toList)=decide (k=name):=by rw[str_mk]
      by_cases hkn:k=name
      ·rw[if_pos hkn]at hgo2
       have hFe:path++[k]=F:=by rw[←hbf,←hgo2];rfl
       rw[decide_eq_true hkn]at e1
       rw[←hFe,hwl]
       ((conv=>whnf);repeat(any_goals((first|refine Vc.stp ?_)<;>(intros;(conv=>whnf)))))
       exact⟨⟨wa,wc,rfl,hwc,hwr.row⟩,hx15.2⟩
      ·rw[if_neg hkn]at hgo2
       rw[decide_eq_false hkn]at e1
       have hd12:=hd11.keep wayT_ok k12 (fun b c u hb hB _=>by subst hb;exact absurd rfl (hmc.ne hB)) (hd11.not_map hmc)
       have hlev3:=hlev2.new hkm hsn
       have hsl3:=hlev3.le
       have hC12:CntO (allN R N) H12 H5.size (s2++[k]) (T2+1):=CntO.new hlc' hc2 hc3 hC11.nodup hC11.sub hsn (Go.Why.nextN_all hkm) m12
       ((conv=>whnf);repeat(any_goals((first|refine Vc.stp ?_)<;>(intros;(conv=>whnf)))))
       rename_i Hq zq bq xq
       have hdq:=(hd12.ext wayT_ok.ok hx1215).ext wayT_ok.ok xq
       have hcapd:=hdq.cap_le
       refine NextH.appE (ws:=[.slice wa (path.length+1) wc]) (l2:=[path++[k]]) wayT_ok rfl ⟨_,rfl,fun _ h=>by cases h⟩ rfl rfl rfl rfl (by decide) (by decide) hdq rfl (Blk.row bq) (LstV.one ⟨wa,wc,by rw[hwl],by rw[hwl];exact hwc,hwr.ext xq⟩) rfl (by omega) (by omega) ?_
       intro da3 dc3 H16 ho16 hw16 hf16
       have hk8q:=Only.trans hk815 xq fun _ _ h=>h.elim
       have hkq:But H5.size H11 Hq:=Only.trans hx1115 xq fun _ _ h=>h.elim
       have hoff: ∀ b c u,(∃ p,a2=some p∧p.block=b)→Blk Hq b c u→ ¬u=9:=fun b c u ⟨p,hp,e⟩ hB hu=>by
        obtain⟨c',hc'⟩:=hdq.typ p hp
        rw[e]at hc'
        have h9:=hB.typ hc'
        rw[hu]at h9;revert h9;decide
       have hkrq:RowT 9 Hq ka (strs ks):=hkr.keep hkq fun b c u hb hB hu=>by subst hb;exact absurd rfl (hmc.ne hB)
       have hprq:RowT 9 Hq pa (strs path):=hpr11.keep hkq fun b c u hb hB hu=>by subst hb;exact absurd rfl (hmc.ne hB)
       have hk816:But H5.size H8 H16:=Only.trans hk8q hw16 fun b hlt ⟨p,hp,e⟩=>by have:=(hdq.block p hp).1;omega
       have hmq:=(m12.ext hx1215).ext xq
       have hCq:=hC12.keep (Only.trans hx1215 xq fun _ _ h=>h) id
       have hC16:=hCq.keep hw16 fun⟨p,hp,e⟩=>hdq.not_map hmq p hp e
       ((conv=>whnf);repeat(any_goals((first|refine Vc.stp ?_)<;>(intros;(conv=>whnf)))))
       exact⟨⟨j+1,dp++[path++[k]],da3,dc3,s2++[k],T2+1⟩,⟨rfl,by show Value.slice _ _ _=Value.slice _ _ _;rw[List.length_append];rfl,trivial⟩,⟨by show j+1≤ks.length;omega,hk816,hkrq.keep hw16 fun b c u hb hB=>hoff b c u hb hB,hprq.keep hw16 fun b c u hb hB=>hoff b c u hb hB,ho16,hC16,hlev3,hgo2,by show T2+1+1000*((lv.length-(i+1))+(dp++[path++[k]]).length)+1000≤1000*((s2++[k]).length+1)+(j+1);rw[List.length_append,List.length_append,List.length_singleton,List.length_singleton];omega,fun w hw=>by
        rw[List.length_append]
        rcases List.mem_append.1 hw with h|h
        ·have:=hw11 w h;show w.length≤s2.length+1;omega
        ·rw[List.mem_singleton]at h;subst h;rw[hwl];show path.length+1≤s2.length+1;omega,by rw[List.length_append];show path.length≤s2.length+1;omega⟩,by show ks.length-(j+1)<ks.length-j;omega⟩
    ·obtain rfl:j=ks.length:=by omega
     rw[Go.Why.goN_end (Nat.le_refl _)]at hgo2
     ((conv=>whnf);repeat(any_goals((first|refine Vc.stp ?_)<;>(intros;(conv=>whnf)))))
     exact⟨⟨i+1,dp,a2,c2,s2,T2⟩,⟨rfl,rfl,trivial⟩,⟨by show i+1≤lv.length;omega,hk11,hd11,hC11,hlev2,hgo2,by show T2+1000*((lv.length-(i+1))+dp.length)≤1000*(s2.length+1);omega,hw11⟩,by show lv.length-(i+1)<lv.length-i;omega⟩
   ·obtain rfl:i=lv.length:=by omega
    rw[Go.Why.goL_end (Nat.le_refl _)]at hgo
    subst hgo
    ((conv=>whnf);repeat(any_goals((first|refine Vc.stp ?_)<;>(intros;(conv=>whnf)))))
    exact⟨⟨deep,da,dc,seen1,T1,g⟩,⟨rfl,trivial⟩,⟨hk79,hd9.rowL,hd9.cap_le,hC9,hlev.end hfg,hbf,by show T1+1000*deep.length≤1000*(seen1.length+1);omega,hw9⟩,by show g<g+1;omega⟩
 ·have hany:P.any (fun p=>p.name==name)=false:=by simpa using hany
  rw[if_neg (by rw[hany];simp)]at hF0
  rw[hany,hF0]
  ((conv=>whnf);repeat(any_goals((first|refine Vc.stp ?_)<;>(intros;(conv=>whnf)))))
  exact⟨⟨none,0,rfl,Nat.le_refl _,Row.nil _ _⟩,hx4.trans hx5⟩
end Go.Proofs.YtjdieklgoepdjaaGreatDoor
