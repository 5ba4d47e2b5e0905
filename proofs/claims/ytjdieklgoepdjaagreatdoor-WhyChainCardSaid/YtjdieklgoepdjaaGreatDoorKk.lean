import Derived.Test.YtjdieklgoepdjaaGreatDoorKp
import Derived.Test.YtjdieklgoepdjaaGreatDoorKb
import Derived.Carry
import Derived.ProofKit
import Derived.OpenShut
import Derived.Test.YtjdieklgoepdjaaGreatDoorKf
import Derived.Test.YtjdieklgoepdjaaGreatDoorKd
import Derived.Test.YtjdieklgoepdjaaGreatDoorKc
set_option linter.unusedVariables false
set_option linter.unusedSimpArgs false
set_option maxRecDepth 100000
/- The reference: do pins fit. -/
namespace Go.Proofs.YtjdieklgoepdjaaGreatDoor
open Go Go.Vc Go.Scr Go.Slv
set_option maxHeartbeats 4000000 in
theorem rfits_any (R:List RowP) (ha:Apart R) (hRB:RowsB R) (N:List NeedP) (hNB: ∀ n∈N,SpnB n.span) (P:List PinP) (hs:SortP P) (hrow: ∀ p∈P,∃ r∈R,pinR r=p) (ra na pa:Option Addr) (rn rc nn nc pn pc:Nat) (H:Heap)
  (hR:RowE rowE H ra R) (hN:RowE needE H na N) (hP:RowE pinE H pa P) (hrn:R.length=rn) (hnn:N.length=nn) (hpn:P.length=pn) (hrl:rn≤10000) (hnl:nn≤10000) (hpl:pn≤900) (hnc:nn≤nc):
  CallH Tryz.prog 39 [.slice ra rn rc,.slice na nn nc,.slice pa pn pc] H fun x H'=>(∃ b:Bool,x= .bool b∧(b=true↔FitP R N P))∧Ext H H':=by
 have hPv: ∀ p∈P,VerB p.v:=fun p hp=>by
  obtain⟨r,hr,rfl⟩:=hrow p hp
  exact rows_ver hRB r hr
 refine Vc.CallH.body Tryz.func39 Tryz.call39 rfl (by decide+kernel) rfl ?_
 ((conv=>whnf);repeat(any_goals((first|((with_reducible refine Vc.DrawH.held [0,1,2,3,4,6,7,8,9,10,5,11,12,13,14,15,16,17,18,19,20,21,22,23,24,25,26,27,28,29,30,31] [(5,[10])] mixed (by decide+kernel) ?_))|refine Vc.stp ?_)<;>(intros;(conv=>whnf)))))
 refine LoopH.intro (fun(i:Nat)=>[(7,.int .i64 i)]) (fun i H'=>i≤pn∧(∀ j p,j<i→P[j]? =some p→ ∀ r∈R,pinR r=p→ ∀ n∈r.needs,metB P n=true)∧Ext H H') (fun i=>pn-i) 0 ⟨rfl,trivial⟩ ⟨Nat.zero_le _,fun j p h=>absurd h (Nat.not_lt_zero _),Ext.refl _⟩ ?_
 rintro i H1 ⟨hi,hall,hx1⟩
 have hz1:=hx1.size
 by_cases hlt:i<pn
 ·obtain⟨p,hp⟩: ∃ p,P[i]? =some p:=⟨_,List.getElem?_eq_getElem (by omega)⟩
  have hpm:=List.mem_of_getElem? hp
  obtain⟨r,hr,hrp⟩:=hrow p hpm
  obtain⟨ri,hri⟩:=List.getElem?_of_mem hr
  have hidx:idxR R p.name p.v=some ri:=by rw[←hrp];exact idx_of ha hri
  have hpv:=hPv p hpm
  have hrow2:=fun H' (k:Ext H H') cp hcp=>rrow_any R p hpv (rows_ver hRB) ra rn rc cp H H' k hR hrn (by omega) hcp
  rw[hidx]at hrow2
  have hrs:=hRB.small r hr
  have hsum:decide (r.sum=p.sum)=true:=by rw[←hrp];exact decide_eq_true rfl
  have hveq:p.v=r.v:=by rw[←hrp];rfl
  have hvb:=verS_b hrs
  have hpt:=preT_small hrs.len hrs.pre
  have hvt:=fun a cap H hr=>rvtext_any r.v ⟨hvb.ma,hvb.mi,hvb.pa,hvb.len⟩ (by omega) a cap H hr
  have hvt2: ∀ a cap H,Row H a (strs p.v.pre)→CallH Tryz.prog 89 [verC p.v a cap] H fun x H'=>x= .string (mkS (verT r.v))∧Ext H H':=by rw[hveq];exact hvt
  have etx:((mkS (verT r.v)).toList==(mkS (verT r.v)).toList)=true:=beq_self_eq_true _
  have hnb:=hRB.needs r hr
  obtain⟨q,hq⟩: ∃ q,i≠0→P[i-1]? =some q:=by
   by_cases h0:i=0
   ·exact⟨p,fun h=>absurd h0 h⟩
   ·exact⟨P[i-1]'(by omega),fun _=>List.getElem?_eq_getElem (by omega)⟩
  have hlsq:i≠0→Op.bytesLess (mkS q.name).toList (mkS p.name).toList=true:=fun h0=>by
   rw[toListS,toListS]
   have hq:=hq h0
   obtain⟨g1,g2⟩:=List.getElem?_eq_some_iff.1 hq
   obtain⟨g3,g4⟩:=List.getElem?_eq_some_iff.1 hp
   rw[←g2,←g4]
   exact List.pairwise_iff_getElem.1 hs _ _ g1 g3 (by omega)
  ((conv=>whnf);repeat(any_goals((first|(refine IdxA.pin hP hpn i p rfl hp ?_;intro b1 o1 c1 pa1 pc1 hp1 hl1 hpl1 hpr1 hcl1 hn1 hv1)|(refine IdxA.pin hP hpn (i-1) q (by omega) hq ?_;intro b2 o2 c2 pa2 pc2 hp2 hl2 hpl2 hpr2 hcl2 hn2 hv2)|((with_reducible apply SemH.load_pin);(exact hl1);(exact hcl1);(exact hx1.trans (by exact Vc.xt));(conv=>whnf))|(refine(hrow2 _ (hx1.trans (by exact Vc.xt)) _ hp1).mono ?_;rintro _ H2 ⟨⟨r2,cr,hr2,rfl,hcr⟩,hx2⟩;have hz2:=hx2.size;rw[hri]at hr2;have e7:=Option.some.inj hr2;subst e7)|(rename_i Hq zq bq xq;refine DoH.store_list bq rfl (by rw[row_ok.len hcr];rfl) (by rw[row_ok.len hcr];rfl) (row_ok.plain hcr) ?_;intro H3 z3 b3 k3;obtain⟨sa,sc,ma,mc,er,r32,hsl,hsr,hnl3,hnr3⟩:=(id hcr);have hn38:hcell H3 ⟨H2.size,0+38,none⟩=some (.slice ma r.needs.length mc):=blk_list b3 0 38 _ (by rw[Nat.zero_add];exact(row_last er (by rw[strV_length];exact r32)).2);have hrv: ∀ (k:Nat) (u:Value),([.int .i64 r.v.ma,.int .i64 r.v.mi,.int .i64 r.v.pa,.slice sa r.v.pre.length sc]:List Value)[k]? =some u→hcell H3 ⟨H2.size,1+k,none⟩=some u:=fun k u hu=>blk_list b3 1 k u (by rw[Nat.add_comm];exact row_ver er k u hu))|((with_reducible apply SemH.load_ver);(exact hrv);(exact Ext.refl _);(conv=>whnf))|((with_reducible apply SemH.load_ver);(exact hv1);(exact hx1.trans (by exact Vc.xt));(conv=>whnf))|((with_reducible apply Vc.StillsH.load);rfl;rfl;rfl;rfl;rfl;rfl;(focus((exact SemH.load_ver hv1 (hx1.trans (by exact Vc.xt)) rfl)));(conv=>whnf))|(refine(hvt _ _ _ (hsr.ext (hx1.trans (by exact Vc.xt)))).mono ?_;rintro _ H5 ⟨rfl,hx5⟩;have hz5:=hx5.size)|(refine(hvt2 _ _ _ (hpr1.ext (hx1.trans (by exact Vc.xt)))).mono ?_;rintro _ H6 ⟨rfl,hx6⟩;have hz6:=hx6.size)|((with_reducible refine Vc.DrawH.held [0,1,2,3,4,6,7,8,9,10,5,11,12,13,14,15,16,17,18,19,20,21,22,23,24,25,26,27,28,29,30,31] [(5,[10])] mixed (by decide+kernel) ?_))|refine Vc.stq ?_|refine Vc.spl ?_ ?_)<;>(intros;(conv=>whnf)))))
  refine Vc.SeqH.go ?_
  ((conv=>whnf);repeat(any_goals((first|(refine IdxA.pin hP hpn i p rfl hp ?_;intro b1 o1 c1 pa1 pc1 hp1 hl1 hpl1 hpr1 hcl1 hn1 hv1)|(refine IdxA.pin hP hpn (i-1) q (by omega) hq ?_;intro b2 o2 c2 pa2 pc2 hp2 hl2 hpl2 hpr2 hcl2 hn2 hv2)|((with_reducible apply SemH.load_pin);(exact hl1);(exact hcl1);(exact hx1.trans (by exact Vc.xt));(conv=>whnf))|(refine(hrow2 _ (hx1.trans (by exact Vc.xt)) _ hp1).mono ?_;rintro _ H2 ⟨⟨r2,cr,hr2,rfl,hcr⟩,hx2⟩;have hz2:=hx2.size;rw[hri]at hr2;have e7:=Option.some.inj hr2;subst e7)|(rename_i Hq zq bq xq;refine DoH.store_list bq rfl (by rw[row_ok.len hcr];rfl) (by rw[row_ok.len hcr];rfl) (row_ok.plain hcr) ?_;intro H3 z3 b3 k3;obtain⟨sa,sc,ma,mc,er,r32,hsl,hsr,hnl3,hnr3⟩:=(id hcr);have hn38:hcell H3 ⟨H2.size,0+38,none⟩=some (.slice ma r.needs.length mc):=blk_list b3 0 38 _ (by rw[Nat.zero_add];exact(row_last er (by rw[strV_length];exact r32)).2);have hrv: ∀ (k:Nat) (u:Value),([.int .i64 r.v.ma,.int .i64 r.v.mi,.int .i64 r.v.pa,.slice sa r.v.pre.length sc]:List Value)[k]? =some u→hcell H3 ⟨H2.size,1+k,none⟩=some u:=fun k u hu=>blk_list b3 1 k u (by rw[Nat.add_comm];exact row_ver er k u hu))|((with_reducible apply SemH.load_ver);(exact hrv);(exact Ext.refl _);(conv=>whnf))|((with_reducible apply SemH.load_ver);(exact hv1);(exact hx1.trans (by exact Vc.xt));(conv=>whnf))|((with_reducible apply Vc.StillsH.load);rfl;rfl;rfl;rfl;rfl;rfl;(focus((exact SemH.load_ver hv1 (hx1.trans (by exact Vc.xt)) rfl)));(conv=>whnf))|(refine(hvt _ _ _ (hsr.ext (hx1.trans (by exact Vc.xt)))).mono ?_;rintro _ H5 ⟨rfl,hx5⟩;have hz5:=hx5.size)|(refine(hvt2 _ _ _ (hpr1.ext (hx1.trans (by exact Vc.xt)))).mono ?_;rintro _ H6 ⟨rfl,hx6⟩;have hz6:=hx6.size)|((with_reducible refine Vc.DrawH.held [0,1,2,3,4,6,7,8,9,10,5,11,12,13,14,15,16,17,18,19,20,21,22,23,24,25,26,27,28,29,30,31] [(5,[10])] mixed (by decide+kernel) ?_))|refine Vc.stq ?_|refine Vc.spl ?_ ?_)<;>(intros;(conv=>whnf)))))
  refine Vc.SeqH.go ?_
  ((conv=>whnf);repeat(any_goals((first|(refine IdxA.pin hP hpn i p rfl hp ?_;intro b1 o1 c1 pa1 pc1 hp1 hl1 hpl1 hpr1 hcl1 hn1 hv1)|(refine IdxA.pin hP hpn (i-1) q (by omega) hq ?_;intro b2 o2 c2 pa2 pc2 hp2 hl2 hpl2 hpr2 hcl2 hn2 hv2)|((with_reducible apply SemH.load_pin);(exact hl1);(exact hcl1);(exact hx1.trans (by exact Vc.xt));(conv=>whnf))|(refine(hrow2 _ (hx1.trans (by exact Vc.xt)) _ hp1).mono ?_;rintro _ H2 ⟨⟨r2,cr,hr2,rfl,hcr⟩,hx2⟩;have hz2:=hx2.size;rw[hri]at hr2;have e7:=Option.some.inj hr2;subst e7)|(rename_i Hq zq bq xq;refine DoH.store_list bq rfl (by rw[row_ok.len hcr];rfl) (by rw[row_ok.len hcr];rfl) (row_ok.plain hcr) ?_;intro H3 z3 b3 k3;obtain⟨sa,sc,ma,mc,er,r32,hsl,hsr,hnl3,hnr3⟩:=(id hcr);have hn38:hcell H3 ⟨H2.size,0+38,none⟩=some (.slice ma r.needs.length mc):=blk_list b3 0 38 _ (by rw[Nat.zero_add];exact(row_last er (by rw[strV_length];exact r32)).2);have hrv: ∀ (k:Nat) (u:Value),([.int .i64 r.v.ma,.int .i64 r.v.mi,.int .i64 r.v.pa,.slice sa r.v.pre.length sc]:List Value)[k]? =some u→hcell H3 ⟨H2.size,1+k,none⟩=some u:=fun k u hu=>blk_list b3 1 k u (by rw[Nat.add_comm];exact row_ver er k u hu))|((with_reducible apply SemH.load_ver);(exact hrv);(exact Ext.refl _);(conv=>whnf))|((with_reducible apply SemH.load_ver);(exact hv1);(exact hx1.trans (by exact Vc.xt));(conv=>whnf))|((with_reducible apply Vc.StillsH.load);rfl;rfl;rfl;rfl;rfl;rfl;(focus((exact SemH.load_ver hv1 (hx1.trans (by exact Vc.xt)) rfl)));(conv=>whnf))|(refine(hvt _ _ _ (hsr.ext (hx1.trans (by exact Vc.xt)))).mono ?_;rintro _ H5 ⟨rfl,hx5⟩;have hz5:=hx5.size)|(refine(hvt2 _ _ _ (hpr1.ext (hx1.trans (by exact Vc.xt)))).mono ?_;rintro _ H6 ⟨rfl,hx6⟩;have hz6:=hx6.size)|((with_reducible refine Vc.DrawH.held [0,1,2,3,4,6,7,8,9,10,5,11,12,13,14,15,16,17,18,19,20,21,22,23,24,25,26,27,28,29,30,31] [(5,[10])] mixed (by decide+kernel) ?_))|refine Vc.stq ?_|refine Vc.spl ?_ ?_)<;>(intros;(conv=>whnf)))))
  refine SeqH.cut (fun(_:Unit)=>[]) (fun _ H'=>Ext H3 H') ?_ ?_
  ·by_cases h0:i=0
   ·((conv=>whnf);repeat(any_goals((first|(refine IdxA.pin hP hpn i p rfl hp ?_;intro b1 o1 c1 pa1 pc1 hp1 hl1 hpl1 hpr1 hcl1 hn1 hv1)|(refine IdxA.pin hP hpn (i-1) q (by omega) hq ?_;intro b2 o2 c2 pa2 pc2 hp2 hl2 hpl2 hpr2 hcl2 hn2 hv2)|((with_reducible apply SemH.load_pin);(exact hl1);(exact hcl1);(exact hx1.trans (by exact Vc.xt));(conv=>whnf))|(refine(hrow2 _ (hx1.trans (by exact Vc.xt)) _ hp1).mono ?_;rintro _ H2 ⟨⟨r2,cr,hr2,rfl,hcr⟩,hx2⟩;have hz2:=hx2.size;rw[hri]at hr2;have e7:=Option.some.inj hr2;subst e7)|(rename_i Hq zq bq xq;refine DoH.store_list bq rfl (by rw[row_ok.len hcr];rfl) (by rw[row_ok.len hcr];rfl) (row_ok.plain hcr) ?_;intro H3 z3 b3 k3;obtain⟨sa,sc,ma,mc,er,r32,hsl,hsr,hnl3,hnr3⟩:=(id hcr);have hn38:hcell H3 ⟨H2.size,0+38,none⟩=some (.slice ma r.needs.length mc):=blk_list b3 0 38 _ (by rw[Nat.zero_add];exact(row_last er (by rw[strV_length];exact r32)).2);have hrv: ∀ (k:Nat) (u:Value),([.int .i64 r.v.ma,.int .i64 r.v.mi,.int .i64 r.v.pa,.slice sa r.v.pre.length sc]:List Value)[k]? =some u→hcell H3 ⟨H2.size,1+k,none⟩=some u:=fun k u hu=>blk_list b3 1 k u (by rw[Nat.add_comm];exact row_ver er k u hu))|((with_reducible apply SemH.load_ver);(exact hrv);(exact Ext.refl _);(conv=>whnf))|((with_reducible apply SemH.load_ver);(exact hv1);(exact hx1.trans (by exact Vc.xt));(conv=>whnf))|((with_reducible apply Vc.StillsH.load);rfl;rfl;rfl;rfl;rfl;rfl;(focus((exact SemH.load_ver hv1 (hx1.trans (by exact Vc.xt)) rfl)));(conv=>whnf))|(refine(hvt _ _ _ (hsr.ext (hx1.trans (by exact Vc.xt)))).mono ?_;rintro _ H5 ⟨rfl,hx5⟩;have hz5:=hx5.size)|(refine(hvt2 _ _ _ (hpr1.ext (hx1.trans (by exact Vc.xt)))).mono ?_;rintro _ H6 ⟨rfl,hx6⟩;have hz6:=hx6.size)|((with_reducible refine Vc.DrawH.held [0,1,2,3,4,6,7,8,9,10,5,11,12,13,14,15,16,17,18,19,20,21,22,23,24,25,26,27,28,29,30,31] [(5,[10])] mixed (by decide+kernel) ?_))|refine Vc.stp ?_)<;>(intros;(conv=>whnf)))))
    exact⟨(),trivial,by exact Vc.xt⟩
   ·have hq:=hq h0
    have hlq:=hlsq h0
    ((conv=>whnf);repeat(any_goals((first|(refine IdxA.pin hP hpn i p rfl hp ?_;intro b1 o1 c1 pa1 pc1 hp1 hl1 hpl1 hpr1 hcl1 hn1 hv1)|(refine IdxA.pin hP hpn (i-1) q (by omega) hq ?_;intro b2 o2 c2 pa2 pc2 hp2 hl2 hpl2 hpr2 hcl2 hn2 hv2)|((with_reducible apply SemH.load_pin);(exact hl1);(exact hcl1);(exact hx1.trans (by exact Vc.xt));(conv=>whnf))|(refine(hrow2 _ (hx1.trans (by exact Vc.xt)) _ hp1).mono ?_;rintro _ H2 ⟨⟨r2,cr,hr2,rfl,hcr⟩,hx2⟩;have hz2:=hx2.size;rw[hri]at hr2;have e7:=Option.some.inj hr2;subst e7)|(rename_i Hq zq bq xq;refine DoH.store_list bq rfl (by rw[row_ok.len hcr];rfl) (by rw[row_ok.len hcr];rfl) (row_ok.plain hcr) ?_;intro H3 z3 b3 k3;obtain⟨sa,sc,ma,mc,er,r32,hsl,hsr,hnl3,hnr3⟩:=(id hcr);have hn38:hcell H3 ⟨H2.size,0+38,none⟩=some (.slice ma r.needs.length mc):=blk_list b3 0 38 _ (by rw[Nat.zero_add];exact(row_last er (by rw[strV_length];exact r32)).2);have hrv: ∀ (k:Nat) (u:Value),([.int .i64 r.v.ma,.int .i64 r.v.mi,.int .i64 r.v.pa,.slice sa r.v.pre.length sc]:List Value)[k]? =some u→hcell H3 ⟨H2.size,1+k,none⟩=some u:=fun k u hu=>blk_list b3 1 k u (by rw[Nat.add_comm];exact row_ver er k u hu))|((with_reducible apply SemH.load_ver);(exact hrv);(exact Ext.refl _);(conv=>whnf))|((with_reducible apply SemH.load_ver);(exact hv1);(exact hx1.trans (by exact Vc.xt));(conv=>whnf))|((with_reducible apply Vc.StillsH.load);rfl;rfl;rfl;rfl;rfl;rfl;(focus((exact SemH.load_ver hv1 (hx1.trans (by exact Vc.xt)) rfl)));(conv=>whnf))|(refine(hvt _ _ _ (hsr.ext (hx1.trans (by exact Vc.xt)))).mono ?_;rintro _ H5 ⟨rfl,hx5⟩;have hz5:=hx5.size)|(refine(hvt2 _ _ _ (hpr1.ext (hx1.trans (by exact Vc.xt)))).mono ?_;rintro _ H6 ⟨rfl,hx6⟩;have hz6:=hx6.size)|((with_reducible refine Vc.DrawH.held [0,1,2,3,4,6,7,8,9,10,5,11,12,13,14,15,16,17,18,19,20,21,22,23,24,25,26,27,28,29,30,31] [(5,[10])] mixed (by decide+kernel) ?_))|refine Vc.stp ?_)<;>(intros;(conv=>whnf)))))
    exact⟨(),trivial,by exact Vc.xt⟩
  ·rintro _ H4 hx4
   have hz4:=hx4.size
   have hn4:=hcell_keep hn38 hx4 id
   have hx14:Ext H1 H4:=by exact Vc.xt
   have hx04:=And.intro trivial (hx1.trans hx14)
   ((conv=>whnf);repeat(any_goals((first|((with_reducible refine Vc.DrawH.held [0,1,2,3,4,6,7,8,9,10,5,11,12,13,14,15,16,17,18,19,20,21,22,23,24,25,26,27,28,29,30,31] [(5,[10])] mixed (by decide+kernel) ?_))|refine Vc.stp ?_)<;>(intros;(conv=>whnf)))))
   refine LoopH.intro (fun(k:Nat)=>[(10,.int .i64 k)]) (fun k H'=>k≤r.needs.length∧(∀ n∈r.needs.take k,metB P n=true)∧Ext H4 H') (fun k=>r.needs.length-k) 0 ⟨rfl,trivial⟩ ⟨Nat.zero_le _,fun n h=>(by rw[List.take_zero]at h;cases h),Ext.refl _⟩ ?_
   rintro k H5 ⟨hk,hmets,hx5⟩
   have hz5:=hx5.size
   have hx05:=And.intro trivial (hx04.2.trans hx5)
   by_cases hkl:k<r.needs.length
   ·obtain⟨nd,hnd⟩: ∃ nd,r.needs[k]? =some nd:=⟨_,List.getElem?_eq_getElem hkl⟩
    have hndm:=List.mem_of_getElem? hnd
    have hsp:=hRB.span r hr nd hndm
    cases hmB:metB P nd with
    |false=>
     ((conv=>whnf);repeat(any_goals((first|(refine IdxA.need (H0:=H) hnr3.const rfl k nd rfl hnd ?_;intro b3 o3 c3 hc3 hcl3 hn3)|((with_reducible apply SemH.load_need);(exact need_ok.len hc3);(exact hcl3);(exact hx05.2.trans (by exact Vc.xt));(conv=>whnf))|(refine(rmet_any nd P hsp hPv _ pa pn pc _ ⟨c3,rfl,need_ok.ext (hx05.2.trans (by exact Vc.xt)) hc3⟩ (hP.ext pin_ok (hx05.2.trans (by exact Vc.xt))) hpn (by omega)).mono ?_;rintro _ H6 ⟨rfl,hx6⟩;have hz6:=hx6.size;rw[hmB])|((with_reducible refine Vc.DrawH.held [0,1,2,3,4,6,7,8,9,10,5,11,12,13,14,15,16,17,18,19,20,21,22,23,24,25,26,27,28,29,30,31] [(5,[10])] mixed (by decide+kernel) ?_))|refine Vc.stp ?_)<;>(intros;(conv=>whnf)))))
     refine⟨⟨false,rfl,fun e=>(by cases e),fun hf=> ?_⟩,hx05.2.trans (by exact Vc.xt)⟩
     have:=(metB_iff hs nd).2 (hf.all r hr (by rw[hrp];exact hpm) nd hndm)
     rw[hmB]at this;cases this
    |true=>
     ((conv=>whnf);repeat(any_goals((first|(refine IdxA.need (H0:=H) hnr3.const rfl k nd rfl hnd ?_;intro b3 o3 c3 hc3 hcl3 hn3)|((with_reducible apply SemH.load_need);(exact need_ok.len hc3);(exact hcl3);(exact hx05.2.trans (by exact Vc.xt));(conv=>whnf))|(refine(rmet_any nd P hsp hPv _ pa pn pc _ ⟨c3,rfl,need_ok.ext (hx05.2.trans (by exact Vc.xt)) hc3⟩ (hP.ext pin_ok (hx05.2.trans (by exact Vc.xt))) hpn (by omega)).mono ?_;rintro _ H6 ⟨rfl,hx6⟩;have hz6:=hx6.size;rw[hmB])|((with_reducible refine Vc.DrawH.held [0,1,2,3,4,6,7,8,9,10,5,11,12,13,14,15,16,17,18,19,20,21,22,23,24,25,26,27,28,29,30,31] [(5,[10])] mixed (by decide+kernel) ?_))|refine Vc.stp ?_)<;>(intros;(conv=>whnf)))))
     exact⟨k+1,⟨rfl,trivial⟩,⟨hkl,fun n hn=>by
      rw[List.take_add_one,hnd]at hn
      rcases List.mem_append.1 hn with hn|hn
      ·exact hmets n hn
      ·simp at hn;subst hn;exact hmB,hx5.trans (by exact Vc.xt)⟩,by omega⟩
   ·rw[List.take_of_length_le (by omega)]at hmets
    ((conv=>whnf);repeat(any_goals((first|((with_reducible refine Vc.DrawH.held [0,1,2,3,4,6,7,8,9,10,5,11,12,13,14,15,16,17,18,19,20,21,22,23,24,25,26,27,28,29,30,31] [(5,[10])] mixed (by decide+kernel) ?_))|refine Vc.stp ?_)<;>(intros;(conv=>whnf)))))
    exact⟨i+1,⟨rfl,trivial⟩,⟨by omega,fun j p' hj hp' r' hr' hrp' n hn=>by
     by_cases e:j=i
     ·subst e
      rw[hp]at hp';cases hp'
      have:r'=r:=row_one ha hr' hr (congrArg PinP.name (hrp'.trans hrp.symm)) (congrArg PinP.v (hrp'.trans hrp.symm))
      subst this
      exact hmets n hn
     ·exact hall j p' (by omega) hp' r' hr' hrp' n hn,(hx1.trans hx14).trans hx5⟩,by omega⟩
 ·obtain rfl:i=pn:=by omega
  have hallP: ∀ r∈R,pinR r∈P→ ∀ n∈r.needs,MetP P n:=fun r hr hp n hn=>by
   obtain⟨j,hj⟩:=List.getElem?_of_mem hp
   exact(metB_iff hs n).1 (hall j _ (by have:=(List.getElem?_eq_some_iff.1 hj).1;omega) hj r hr rfl n hn)
  ((conv=>whnf);repeat(any_goals((first|((with_reducible refine Vc.DrawH.held [0,1,2,3,4,6,7,8,9,10,5,11,12,13,14,15,16,17,18,19,20,21,22,23,24,25,26,27,28,29,30,31] [(5,[10])] mixed (by decide+kernel) ?_))|refine Vc.stp ?_)<;>(intros;(conv=>whnf)))))
  refine LoopH.intro (fun(k:Nat)=>[(11,.int .i64 k)]) (fun k H'=>k≤nn∧(∀ n∈N.take k,metB P n=true)∧Ext H1 H') (fun k=>nn-k) 0 ⟨rfl,trivial⟩ ⟨Nat.zero_le _,fun n h=>(by rw[List.take_zero]at h;cases h),Ext.refl _⟩ ?_
  rintro k H5 ⟨hk,hmets,hx5⟩
  have hz5:=hx5.size
  have hx05:=And.intro trivial (hx1.trans hx5)
  by_cases hkl:k<nn
  ·obtain⟨nd,hnd⟩: ∃ nd,N[k]? =some nd:=⟨_,List.getElem?_eq_getElem (by omega)⟩
   have hndm:=List.mem_of_getElem? hnd
   have hsp:=hNB nd hndm
   cases hmB:metB P nd with
   |false=>
    ((conv=>whnf);repeat(any_goals((first|(refine IdxA.need (H0:=H) hN.const hnn k nd rfl hnd ?_;intro b3 o3 c3 hc3 hcl3 hn3)|((with_reducible apply SemH.load_need);(exact need_ok.len hc3);(exact hcl3);(exact hx05.2.trans (by exact Vc.xt));(conv=>whnf))|(refine(rmet_any nd P hsp hPv _ pa i pc _ ⟨c3,rfl,need_ok.ext (hx05.2.trans (by exact Vc.xt)) hc3⟩ (hP.ext pin_ok (hx05.2.trans (by exact Vc.xt))) hpn (by omega)).mono ?_;rintro _ H6 ⟨rfl,hx6⟩;have hz6:=hx6.size;rw[hmB])|((with_reducible refine Vc.DrawH.held [0,1,2,3,4,6,7,8,9,10,5,11,12,13,14,15,16,17,18,19,20,21,22,23,24,25,26,27,28,29,30,31] [(5,[10])] mixed (by decide+kernel) ?_))|refine Vc.stp ?_)<;>(intros;(conv=>whnf)))))
    refine⟨⟨false,rfl,fun e=>(by cases e),fun hf=> ?_⟩,hx05.2.trans (by exact Vc.xt)⟩
    have:=(metB_iff hs nd).2 (hf.root nd hndm)
    rw[hmB]at this;cases this
   |true=>
    ((conv=>whnf);repeat(any_goals((first|(refine IdxA.need (H0:=H) hN.const hnn k nd rfl hnd ?_;intro b3 o3 c3 hc3 hcl3 hn3)|((with_reducible apply SemH.load_need);(exact need_ok.len hc3);(exact hcl3);(exact hx05.2.trans (by exact Vc.xt));(conv=>whnf))|(refine(rmet_any nd P hsp hPv _ pa i pc _ ⟨c3,rfl,need_ok.ext (hx05.2.trans (by exact Vc.xt)) hc3⟩ (hP.ext pin_ok (hx05.2.trans (by exact Vc.xt))) hpn (by omega)).mono ?_;rintro _ H6 ⟨rfl,hx6⟩;have hz6:=hx6.size;rw[hmB])|((with_reducible refine Vc.DrawH.held [0,1,2,3,4,6,7,8,9,10,5,11,12,13,14,15,16,17,18,19,20,21,22,23,24,25,26,27,28,29,30,31] [(5,[10])] mixed (by decide+kernel) ?_))|refine Vc.stp ?_)<;>(intros;(conv=>whnf)))))
    exact⟨k+1,⟨rfl,trivial⟩,⟨by omega,fun n hn=>by
     rw[List.take_add_one,hnd]at hn
     rcases List.mem_append.1 hn with hn|hn
     ·exact hmets n hn
     ·simp at hn;subst hn;exact hmB,hx5.trans (by exact Vc.xt)⟩,by omega⟩
  ·rw[List.take_of_length_le (by omega)]at hmets
   ((conv=>whnf);repeat(any_goals((first|(refine(rreached_any R ha hRB N P hs hrow ra na pa rn rc nn nc i pc _ (hR.ext row_ok (hx05.2.trans (by exact Vc.xt))) (hN.ext need_ok (hx05.2.trans (by exact Vc.xt))) (hP.ext pin_ok (hx05.2.trans (by exact Vc.xt))) hrn hnn hpn hrl hnl hpl hnc).mono ?_;rintro _ H6 ⟨⟨out,W,oa,oc,rfl,hg⟩,hx6⟩;have hz6:=hx6.size)|((with_reducible refine Vc.DrawH.held [0,1,2,3,4,6,7,8,9,10,5,11,12,13,14,15,16,17,18,19,20,21,22,23,24,25,26,27,28,29,30,31] [(5,[10])] mixed (by decide+kernel) ?_))|refine Vc.stp ?_)<;>(intros;(conv=>whnf)))))
   refine⟨⟨((out.length:Int)==(i:Int)),rfl,?_⟩,hx05.2.trans (by exact Vc.xt)⟩
   have hga:=hg.all hs hrow
   rw[beq_iff_eq]
   constructor
   ·intro e
    exact⟨hs,hrow,fun n hn=>(metB_iff hs n).1 (hmets n hn),hallP,hga.1 (by omega)⟩
   ·intro hf
    have:=hga.2 hf.reach
    omega
end Go.Proofs.YtjdieklgoepdjaaGreatDoor
namespace Go.Vc
open Go.ChangeShapes Go.WideShapes Go.RowKit
section
variable {H:Type} {enc:TypeId×Value→H} {P:Program}
theorem below_of {W W':World} (hs:Same W W') (hx:Ext W.heap W'.heap):Below W.heap.size W W':=
 ⟨hs.os,hs.tape,hs.output,hx.size,fun k hk=>hx.same k hk id⟩
theorem trodAll_stays (hl:laidOutB P=true) {W W':World} (hb:Below W.heap.size W W') {sp:Nat→Bool}: ∀ {ts:List TypeId} {vs:List Value} {ds:List (DataW H)} {ps:List MemPlace},(∀ t∈ts,P.readableRec t=true∧t<P.types.size)→
  DataW.TrodAll enc P W 0 (fun _=>true) true ts vs ds ps→(∀ p∈ps,p.block<W.heap.size)→(∀ p∈ps,sp p.block=true)→DataW.TrodAll enc P W' 0 sp true ts vs ds ps
 |[],[],[],_,_,h,_,_=>h
 |t::ts,v::vs,d::ds,_,hT,⟨p,q,h1,h2,e⟩,hlt,hs=>by
  subst e
  exact⟨p,q,WideElems.Trod_stays hl (hT t (by simp)).1 (hT t (by simp)).2 h1 (fun x hx=>hb.same (hlt x (by simp[hx]))) (fun x hx=>hs x (by simp[hx])),
   trodAll_stays hl hb (fun t ht=>hT t (by simp[ht])) h2 (fun x hx=>hlt x (by simp[hx])) (fun x hx=>hs x (by simp[hx])),rfl⟩
theorem law_post {f:Func} {s:ChangeSpec} {apart fresh handsOn again:Bool} {W W':World} {args:Array Value} {ds gs:List (DataW H)} {before:List MemPlace} {tb:TypeId}
  (hW:DataW.Whole enc P f.params.toList s.vars apart W args.toList ds gs before) (hv:s.vars=[]) (hs:s.fn H (ds++gs)={results:=[.lit (.bool true)],args:=ds,vars:=[]})
  (hr:f.resultTypes= #[tb]) (hb:P.underlying tb=some .bool) (hl:laidOutB P=true) (hread: ∀ t∈f.params.toList,P.readableRec t=true∧t<P.types.size)
  (hsame:Same W W') (hx:Ext W.heap W'.heap):s.post enc P f apart fresh handsOn again W args (.bool true) W':=by
 have hlt:=hW.lt
 have hW':=hW
 obtain⟨p,q,hA,hV,rfl,hfz,hnd⟩:=hW
 rw[hv]at hV
 obtain⟨rfl,rfl⟩:=trodVars_none hV
 have hbel:=below_of hsame hx
 have hone:(Value.bool true).resultList f.resultTypes.size=[.bool true]:=by rw[hr];rfl
 have hrt: ∀ (b:Nat) (sp:Nat→Bool) (hd:Bool),DataW.TrodAll enc P W' b sp hd f.resultTypes.toList ((Value.bool true).resultList f.resultTypes.size) (s.fn H (ds++[])).results []:=fun b sp hd=>by
  rw[hone,hr,hs]
  exact trodAll_cons_mk (shut_bool hb true) trodAll_mk0
 have hlt': ∀ x∈p,x.block<W.heap.size:=fun x hx=>hlt x (by simp[hx])
 have hat: ∀ sp:Nat→Bool,(∀ x∈p,sp x.block=true)→DataW.TrodAll enc P W' 0 sp true f.params.toList args.toList (s.fn H (ds++[])).args p:=fun sp hsp=>by
  rw[hs];exact trodAll_stays hl hbel hread hA hlt' hsp
 refine⟨ds,[],p++[],[],p,[],hW',hrt _ _ _,hat _ (fun x hx=>by simpa using hlt' x hx),?_,hbel.frame _,fun _=>⟨?_,_,[],([]++p)++[],⟨[]++p,[],trodAll_append (hat _ (fun _ _=>rfl)) (hrt _ _ _),?_,rfl,?_,?_⟩,?_⟩⟩
 ·rw[hv,hs];exact rfl
 ·intro j t r hj hr'
  rw[hone]at hr'
  rw[hr]at hj
  match j,hj,hr' with
  |0,hj,hr'=>
   simp at hj hr'
   subst hj;subst hr'
   exact okWide_bool_mk hb true
 ·rw[hv];exact rfl
 ·intro b off hp
  have hp':MemPlace.cell b off∈p:=by simpa using hp
  have hb':=hlt' _ hp'
  rw[hbel.frozen (p:=⟨b,off,none⟩) hb']
  exact hfz b off (by simpa using hp')
 ·intro ha
  have:=hnd ha
  simpa using this
 ·intro x hx _
  simpa using hx
theorem calls_of {f:FuncId} {args:Array Value} {W:World} {R:Value→Heap→Prop} (hc:(callFunc f args).run P W= .ok (.enter f args) W) (h:CallH P f args.toList W.heap R):
  Calls P f args W fun e w=>Same W w∧ ∃ v,e= .returned v∧R v w.heap:=by
 have:=h.out W rfl
 rw[Array.toArray_toList,hc]at this
 exact this.2
theorem law_calls {f:FuncId} {fn:Func} {s:ChangeSpec} {apart fresh handsOn again:Bool} {W:World} {args:Array Value} {ds gs:List (DataW H)} {before:List MemPlace} {tb:TypeId}
  (hc:(callFunc f args).run P W= .ok (.enter f args) W) (h:CallH P f args.toList W.heap fun v H'=>v= .bool true∧Ext W.heap H')
  (hW:DataW.Whole enc P fn.params.toList s.vars apart W args.toList ds gs before) (hv:s.vars=[]) (hs:s.fn H (ds++gs)={results:=[.lit (.bool true)],args:=ds,vars:=[]})
  (hr:fn.resultTypes= #[tb]) (hb:P.underlying tb=some .bool) (hl:laidOutB P=true) (hread:(fn.params.toList.all fun t=>P.readableRec t&&decide (t<P.types.size))=true):
  Calls P f args W fun e W'=>∃ v,e= .returned v∧s.post enc P fn apart fresh handsOn again W args v W':=
 Calls.mono (calls_of hc h) fun e w' ⟨hsame,v,he,hv',hx⟩=>⟨v,he,hv'▸law_post hW hv hs hr hb hl (fun t ht=>by simpa using List.all_eq_true.1 hread t ht) hsame hx⟩
variable {w:World} {base:Nat} {sp:Nat→Bool} {held:Bool}
end
end Go.Vc
namespace Go.Vc
open Go.ChangeShapes Go.WideShapes Go.RowKit
section
variable {H:Type} {enc:TypeId×Value→H} {P:Program} {w:World} {base:Nat} {sp:Nat→Bool} {held:Bool}
end
end Go.Vc
namespace Go.Proofs.YtjdieklgoepdjaaGreatDoor
open Go Go.Vc Go.Scr Go.Pth Go.Tre Go.ChangeShapes Go.WideShapes Go.RowKit
section
variable {H:Type} {enc:TypeId×Value→H} {w:World} {base:Nat} {sp:Nat→Bool} {held:Bool}
end
end Go.Proofs.YtjdieklgoepdjaaGreatDoor
namespace Go.Slv
open Go.Scr
structure RowI where
 n:Nat
 v:Nat
 needs:List Nat
 kind:Nat
 lie:Nat
structure RowIB (r:RowI):Prop where
 n:r.n<256
 v:r.v<256
 needs: ∀ x∈r.needs,x<65536
 kind:r.kind<256
 lie:r.lie<256
def intsV (k:Go.IntKind) (l:List Nat):List Go.Value:=l.map fun(n:Nat)=>Go.Value.int k (n:Int)
end Go.Slv
namespace Go.Proofs.YtjdieklgoepdjaaGreatDoor
open Go Go.Vc Go.Scr Go.Slv Go.ChangeShapes Go.WideShapes Go.RowKit
def rinE (H:Heap) (r:RowI) (c:List Value):Prop:=∃ a cap,c=[.int .u8 r.n,.int .u8 r.v,.slice a r.needs.length cap,.int .u8 r.kind,.int .u8 r.lie]∧r.needs.length≤cap∧Row H a (intsV .u16 r.needs)∧RowIB r
theorem rin_ok:EncOk rinE 5:=⟨fun⟨_,_,e,_⟩=>by rw[e];rfl,fun k ⟨a,cap,e,h,r,b⟩=>⟨a,cap,e,h,r.ext k,b⟩,fun⟨_,_,e,_⟩ u hu=>by
 rw[e]at hu
 simp at hu
 rcases hu with rfl|rfl|rfl|rfl|rfl<;>rfl⟩
theorem u8_nat {n:Int} (h:(Lit.int .u8 n).wf=true): ∃ m:Nat,n=m∧m<256:=by
 have h2:0≤n∧n≤255:=by
  simp[Lit.wf,IntKind.min,IntKind.max,IntKind.signed,IntKind.bits]at h
  omega
 exact⟨n.toNat,by omega,by omega⟩
section
variable {H:Type} {enc:TypeId×Value→H} {w:World} {base:Nat} {sp:Nat→Bool} {held:Bool}
end
theorem SemH.load_rin {H H0:Heap} {b o:Nat} {c:List Value} {K:Value→Heap→Prop} (hl:c.length=5) (hc: ∀ k u,c[k]? =some u→hcell H0 ⟨b,o+k,none⟩=some u) (he:Ext H0 H) (hk:K (.agg c.toArray) H):SemH Tryz.prog (Instr.loadAt 83 (.pointer (some ⟨b,o,none⟩))) H K:=by
 have:=Go.Vc.SemH.load_agg (P:=Tryz.prog) (t:=83) (H:=H) (b:=b) (o:=o) (vs:=c) (K:=K) rfl rfl (by rw[hl];rfl) (fun j u hu=>hcell_keep (hc j u hu) he id) hk
 exact this
end Go.Proofs.YtjdieklgoepdjaaGreatDoor
namespace Go.Slv
open Go.Scr
def verL:List Txt:=[[49,46,48,46,48],[49,46,49,46,48],[50,46,48,46,48],[48,46,51,46,48],[49,46,48,46,48,45,120,46,49],[49,46,50,46,51]]
def spnL:List Txt:=[[42],[94,49,46,48,46,48],[126,49,46,48,46,48],[62,61,49,46,49,46,48],[50,46,48,46,48],[60,50,46,48,46,48],[94,48,46,51,46,48],[62,61,49,46,48,46,48,45,97,32,60,49,46,48,46,48,32,124,124,32,50,46,48,46,48],[49,46,48,46,48,45,120,46,49],[42]]
def nmL:List Txt:=[[97],[98],[99],[100],[101],[102]]
def verN (k:Nat):Txt:=(verL[k % 6]?).getD []
def spnN (k:Nat):Txt:=(spnL[k % 10]?).getD []
def nmN (k:Nat):Txt:=(nmL[k % 6]?).getD []
theorem verN_at (k:Nat):verL[k % 6]? =some (verN k):=by
 unfold verN
 have:k % 6<verL.length:=Nat.mod_lt _ (by decide)
 rw[List.getElem?_eq_getElem this];rfl
theorem spnN_at (k:Nat):spnL[k % 10]? =some (spnN k):=by
 unfold spnN
 have:k % 10<spnL.length:=Nat.mod_lt _ (by decide)
 rw[List.getElem?_eq_getElem this];rfl
end Go.Slv
namespace Go.Proofs.YtjdieklgoepdjaaGreatDoor
open Go Go.Vc Go.Scr Go.Slv
theorem sversion_any (k:Nat) (hk:k<256) (H:Heap):CallH Tryz.prog 45 [.int .u8 k] H fun x H'=>x= .string (mkS (verN k))∧Ext H H':=by
 refine Vc.CallH.body Tryz.func45 Tryz.call45 rfl (by decide+kernel) rfl ?_
 have hat:=verN_at k
 ((conv=>whnf);repeat(any_goals((first|(refine SemH.lit (vs:=strs verL) rfl rfl rfl rfl rfl rfl rfl ?_;intro Hm zm bm xm;have hrow:Row Hm (some ⟨H.size,0,none⟩) (strs verL):=Blk.row (t:=9) bm)|(refine IdxA.strv hrow rfl (k % 6) (verN k) rfl hat ?_;intro _ _ _ _ _)|refine Vc.stp ?_)<;>(intros;(conv=>whnf)))))
 exact⟨rfl,by exact Vc.xt⟩
theorem sspan_any (k:Nat) (hk:k<256) (H:Heap):CallH Tryz.prog 49 [.int .u8 k] H fun x H'=>x= .string (mkS (spnN k))∧Ext H H':=by
 refine Vc.CallH.body Tryz.func49 Tryz.call49 rfl (by decide+kernel) rfl ?_
 have hat:=spnN_at k
 ((conv=>whnf);repeat(any_goals((first|(refine SemH.lit (vs:=strs spnL) rfl rfl rfl rfl rfl rfl rfl ?_;intro Hm zm bm xm;have hrow:Row Hm (some ⟨H.size,0,none⟩) (strs spnL):=Blk.row (t:=9) bm)|(refine IdxA.strv hrow rfl (k % 10) (spnN k) rfl hat ?_;intro _ _ _ _ _)|refine Vc.stp ?_)<;>(intros;(conv=>whnf)))))
 exact⟨rfl,by exact Vc.xt⟩
theorem nm_cut (k:Nat):(⟨#[97,98,99,100,101,102]⟩:ByteArray).extract (k % 6) (k % 6+1)=mkS (nmN k):=by
 unfold nmN
 have:k % 6<6:=Nat.mod_lt _ (by decide)
 obtain⟨j,hj⟩: ∃ j,k % 6=j:=⟨_,rfl⟩
 rw[hj]at this ⊢
 match j,this with
 |0,_=>rfl
 |1,_=>rfl
 |2,_=>rfl
 |3,_=>rfl
 |4,_=>rfl
 |5,_=>rfl
theorem sname_any (k:Nat) (hk:k<256) (H:Heap):CallH Tryz.prog 22 [.int .u8 k] H fun x H'=>x= .string (mkS (nmN k))∧H=H':=by
 refine Vc.CallH.body Tryz.func22 Tryz.call22 rfl (by decide+kernel) rfl ?_
 ((conv=>whnf);repeat(any_goals((first|(refine BndH.nat (k % 6) rfl (by omega) ?_)|(refine BndH.nat (k % 6+1) (by omega) (by show k % 6+1≤6;omega) ?_)|refine Vc.stp ?_)<;>(intros;(conv=>whnf)))))
 exact⟨by rw[nm_cut k];rfl,rfl⟩
end Go.Proofs.YtjdieklgoepdjaaGreatDoor
namespace Go.Slv
open Go.Scr
def spnP (k:Nat):SpnP:=(spanF (spnN k)).getD ⟨true,[]⟩
theorem spn_ok: ∀ j:Fin 10,(spanF ((spnL[j.1]?).getD [])).isSome=true:=by decide+kernel
theorem spn_some (k:Nat):spanF (spnN k)=some (spnP k):=by
 have h:(spanF (spnN k)).isSome=true:=by
  exact spn_ok ⟨k % 10,Nat.mod_lt _ (by decide)⟩
 unfold spnP
 cases e:spanF (spnN k)with
 |none=>rw[e]at h;cases h
 |some s=>rfl
def needI (j:Nat):NeedP:=⟨nmN (j % 6),spnP (j / 6 % 10),spnN (j / 6 % 10)⟩
def insN:List NeedP→NeedP→List NeedP
 |[],n=>[n]
 |x::l,n=>if Op.bytesLess x.name n.name=true then x::insN l n else if x.name=n.name then x::l else n::x::l
def needsM (L:List Nat):List NeedP:=L.foldl (fun l j=>insN l (needI j)) []
theorem insN_at: ∀ (l:List NeedP) (n:NeedP) (i:Nat),(∀ j x,j<i→l[j]? =some x→Op.bytesLess x.name n.name=true)→i≤l.length→(∀ x,l[i]? =some x→Op.bytesLess x.name n.name=false)→
  insN l n=if(l[i]?).map (·.name)=some n.name then l else l.take i++n::l.drop i
 |[],n,i,_,hi,_=>by
  obtain rfl:i=0:=by simpa using hi
  rfl
 |x::l,n,0,_,_,h=>by
  have:=h x rfl
  unfold insN
  rw[if_neg (by rw[this];simp)]
  by_cases e:x.name=n.name
  ·simp[e]
  ·simp[e]
 |x::l,n,i+1,h1,hi,h=>by
  have hx:=h1 0 x (by omega) rfl
  unfold insN
  rw[if_pos hx,insN_at l n i (fun j y hj hy=>h1 (j+1) y (by omega) (by simpa using hy)) (by simpa using hi) (fun y hy=>h y (by simpa using hy))]
  simp only[List.getElem?_cons_succ,List.take_succ_cons,List.cons_append,List.drop_succ_cons]
  split<;>rfl
theorem insN_len (l:List NeedP) (n:NeedP):(insN l n).length≤l.length+1:=by
 induction l with
 |nil=>simp[insN]
 |cons j l ih=>
  unfold insN
  split
  ·simp only[List.length_cons];omega
  ·split<;>simp
theorem insN_mem {l:List NeedP} {n m:NeedP} (h:m∈insN l n):m∈l∨m=n:=by
 induction l with
 |nil=>simpa [insN]using h
 |cons x l ih=>
  unfold insN at h
  split at h
  ·rcases List.mem_cons.1 h with h|h
   ·exact .inl (by simp[h])
   ·rcases ih h with h|h
    ·exact .inl (List.mem_cons_of_mem _ h)
    ·exact .inr h
  ·split at h
   ·exact .inl h
   ·rcases List.mem_cons.1 h with h|h
    ·exact .inr h
    ·exact .inl h
theorem needsM_snoc {L:List Nat} {i j:Nat} (h:L[i]? =some j):needsM (L.take (i+1))=insN (needsM (L.take i)) (needI j):=by
 unfold needsM
 rw[List.take_add_one,h,List.foldl_append]
 rfl
theorem needsM_len (L:List Nat):(needsM L).length≤L.length:=by
 have: ∀ (L:List Nat) (l:List NeedP),(L.foldl (fun l j=>insN l (needI j)) l).length≤l.length+L.length:=fun L=>by
  induction L with
  |nil=>intro l;simp
  |cons j L ih=>
   intro l
   have:=ih (insN l (needI j))
   have h2:=insN_len l (needI j)
   rw[List.foldl_cons,List.length_cons]
   omega
 have:=this L []
 simpa [needsM]using this
theorem needsM_mem {L:List Nat} {m:NeedP} (h:m∈needsM L): ∃ j,m=needI j:=by
 have: ∀ (L:List Nat) (l:List NeedP),m∈L.foldl (fun l j=>insN l (needI j)) l→m∈l∨ ∃ j,m=needI j:=fun L=>by
  induction L with
  |nil=>intro l h;exact .inl h
  |cons j L ih=>
   intro l h
   rw[List.foldl_cons]at h
   rcases ih _ h with h|h
   ·rcases insN_mem h with h|h
    ·exact .inl h
    ·exact .inr ⟨j,h⟩
   ·exact .inr h
 rcases this L [] h with h|h
 ·cases h
 ·exact h
end Go.Slv
namespace Go.Proofs.YtjdieklgoepdjaaGreatDoor
open Go Go.Vc Go.Scr Go.Slv
def smallV (v:VerP):Bool:=decide (v.ma≤1000)&&decide (v.mi≤1000)&&decide (v.pa≤1000)&&decide (v.pre.length≤10)&&v.pre.all fun m=>decide (m.length≤100)
def smallS (s:SpnP):Bool:=decide (s.or_.length≤10)&&s.or_.all fun l=>decide (l.length≤10)&&l.all fun b=>smallV b.v
theorem spn_small: ∀ j:Fin 10,smallS ((spanF ((spnL[j.1]?).getD [])).getD ⟨true,[]⟩)=true:=by decide+kernel
theorem spnP_small (k:Nat):smallS (spnP k)=true:=spn_small ⟨k % 10,Nat.mod_lt _ (by decide)⟩
theorem ver_small {v:VerP} (h:smallV v=true):VerB v:=by
 unfold smallV at h
 simp only[Bool.and_eq_true,decide_eq_true_eq,List.all_eq_true]at h
 obtain⟨⟨⟨⟨h1,h2⟩,h3⟩,h4⟩,h5⟩:=h
 constructor<;>first|omega|(intro m hm;have:=h5 m hm;omega)
theorem spn_b {s:SpnP} (h:smallS s=true):SpnB s:=by
 unfold smallS at h
 simp only[Bool.and_eq_true,decide_eq_true_eq,List.all_eq_true]at h
 exact⟨by omega,fun l hl=>by have:=(h.2 l hl).1;omega,fun l hl b hb=>ver_small ((h.2 l hl).2 b hb)⟩
theorem needI_b (j:Nat):SpnB (needI j).span:=spn_b (spnP_small _)
end Go.Proofs.YtjdieklgoepdjaaGreatDoor
namespace Go.Slv
open Go.Scr Go.Tre
def insX (own:Txt) (l:List NeedP) (n:NeedP):List NeedP:=if n.name=own∨ ∃ x∈l,x.name=n.name then l else insN l n
def needsX (own:Txt) (L:List Nat):List NeedP:=L.foldl (fun l j=>insX own l (needI j)) []
def verP (k:Nat):VerP:=(verF (verN k)).getD ⟨0,0,0,[]⟩
theorem ver_ok: ∀ j:Fin 6,(verF ((verL[j.1]?).getD [])).isSome=true:=by decide+kernel
theorem ver_some (k:Nat):verF (verN k)=some (verP k):=by
 have h:(verF (verN k)).isSome=true:=ver_ok ⟨k % 6,Nat.mod_lt _ (by decide)⟩
 unfold verP
 cases e:verF (verN k)with
 |none=>rw[e]at h;cases h
 |some s=>rfl
def rowI (x:RowI) (s:Txt×Int):RowP:=⟨nmN x.n,verP x.v,s.1,s.2,needsX (nmN x.n) x.needs⟩
def stepM (R:List RowP) (x:RowI×(Txt×Int)):List RowP:=if(idxR R (nmN x.1.n) (verP x.1.v)).isSome=true then R else R++[rowI x.1 x.2]
def madeF (L:List (RowI×(Txt×Int))):List RowP:=L.foldl stepM []
theorem madeF_snoc {L:List RowI} {S:List (Txt×Int)} {i:Nat} {x:RowI} (h:L[i]? =some x) (hS:S.length=i) (s:Txt×Int):madeF ((L.take (i+1)).zip (S++[s]))=stepM (madeF ((L.take i).zip S)) (x,s):=by
 have hi:=(List.getElem?_eq_some_iff.1 h).1
 rw[List.take_add_one,h]
 have hz:(L.take i++(some x).toList).zip (S++[s])=(L.take i).zip S++[x].zip [s]:=List.zip_append (by rw[List.length_take];omega)
 rw[hz]
 unfold madeF
 rw[List.foldl_append]
 rfl
theorem needsX_snoc (own:Txt) {L:List Nat} {i j:Nat} (h:L[i]? =some j):needsX own (L.take (i+1))=insX own (needsX own (L.take i)) (needI j):=by
 unfold needsX
 rw[List.take_add_one,h,List.foldl_append]
 rfl
theorem insX_len (own:Txt) (l:List NeedP) (n:NeedP):(insX own l n).length≤l.length+1:=by
 unfold insX
 split
 ·omega
 ·exact insN_len l n
theorem needsX_fold (own:Txt): ∀ (L:List Nat) (l:List NeedP),(L.foldl (fun l j=>insX own l (needI j)) l).length≤l.length+L.length
 |[],l=>by simp
 |j::L,l=>by
  have h1:=needsX_fold own L (insX own l (needI j))
  have h2:=insX_len own l (needI j)
  rw[List.foldl_cons,List.length_cons]
  omega
theorem needsX_len (own:Txt) (L:List Nat):(needsX own L).length≤L.length:=by
 have:=needsX_fold own L []
 simpa [needsX]using this
theorem needsX_mem {own:Txt} {L:List Nat} {m:NeedP} (h:m∈needsX own L): ∃ j,m=needI j:=by
 have: ∀ (L:List Nat) (l:List NeedP),m∈L.foldl (fun l j=>insX own l (needI j)) l→m∈l∨ ∃ j,m=needI j:=fun L=>by
  induction L with
  |nil=>intro l h;exact .inl h
  |cons j L ih=>
   intro l h
   rw[List.foldl_cons]at h
   rcases ih _ h with h|h
   ·unfold insX at h
    split at h
    ·exact .inl h
    ·rcases insN_mem h with h|h
     ·exact .inl h
     ·exact .inr ⟨j,h⟩
   ·exact .inr h
 rcases this L [] h with h|h
 ·cases h
 ·exact h
theorem nmN_ne (k:Nat):(nmN k).length=1:=by
 have h: ∀ j:Fin 6,((nmL[j.1]?).getD []).length=1:=by decide
 exact h ⟨k % 6,Nat.mod_lt _ (by decide)⟩
theorem nmN_mem (k:Nat):nmN k∈nmL:=by
 have h:k % 6<nmL.length:=Nat.mod_lt _ (by decide)
 unfold nmN
 rw[List.getElem?_eq_getElem h]
 exact List.getElem_mem _
structure MadeOk (R:List RowP):Prop where
 apart:Apart R
 row: ∀ r∈R,∃ (x:RowI) (s:Txt×Int),r=rowI x s∧x.needs.length≤4
theorem apart_snoc {R:List RowP} (h:Apart R) {r:RowP} (hn:idxR R r.name r.v=none):Apart (R++[r]):=by
 have hno: ∀ s∈R,¬(s.name=r.name∧s.v=r.v):=fun s hs ⟨e1,e2⟩=>by
  unfold idxR at hn
  rw[List.findIdx?_eq_none_iff]at hn
  have:=hn s hs
  rw[e1,e2,lin_ver.refl]at this
  simp at this
 intro i j a b h1 h2 e1 e2
 rw[List.getElem?_append]at h1 h2
 split at h1
 ·split at h2
  ·exact h i j a b h1 h2 e1 e2
  ·have:b=r:=by
    have:=List.mem_of_getElem? h2
    simpa using this
   subst this
   exact absurd ⟨e1,e2⟩ (hno a (List.mem_of_getElem? h1))
 ·have:a=r:=by
   have:=List.mem_of_getElem? h1
   simpa using this
  subst this
  split at h2
  ·exact absurd ⟨e1.symm,e2.symm⟩ (hno b (List.mem_of_getElem? h2))
  ·have g1:=(List.getElem?_eq_some_iff.1 h1).1
   have g2:=(List.getElem?_eq_some_iff.1 h2).1
   simp only[List.length_singleton]at g1 g2
   omega
theorem madeOk_step {R:List RowP} (h:MadeOk R) (x:RowI×(Txt×Int)) (hx:x.1.needs.length≤4):MadeOk (stepM R x):=by
 unfold stepM
 split
 ·exact h
 ·rename_i e
  refine⟨apart_snoc h.apart ?_,fun r hr=> ?_⟩
  ·show idxR R (nmN x.1.n) (verP x.1.v)=none
   cases e2:idxR R (nmN x.1.n) (verP x.1.v)with
   |none=>rfl
   |some i=>rw[e2]at e;exact absurd rfl e
  ·rcases List.mem_append.1 hr with hr|hr
   ·exact h.row r hr
   ·rw[List.mem_singleton]at hr
    exact⟨x.1,x.2,hr,hx⟩
theorem madeF_ok (L:List (RowI×(Txt×Int))) (hL: ∀ x∈L,x.1.needs.length≤4):MadeOk (madeF L):=by
 have: ∀ (L:List (RowI×(Txt×Int))) (R:List RowP),(∀ x∈L,x.1.needs.length≤4)→MadeOk R→MadeOk (L.foldl stepM R):=fun L=>by
  induction L with
  |nil=>intro R _ h;exact h
  |cons x L ih=>intro R hL h;exact ih _ (fun y hy=>hL y (List.mem_cons_of_mem _ hy)) (madeOk_step h x (hL x List.mem_cons_self))
 exact this L [] hL ⟨fun i j r s h=>by simp at h,fun r hr=>by cases hr⟩
theorem madeF_len (L:List (RowI×(Txt×Int))):(madeF L).length≤L.length:=by
 have: ∀ (L:List (RowI×(Txt×Int))) (R:List RowP),(L.foldl stepM R).length≤R.length+L.length:=fun L=>by
  induction L with
  |nil=>intro R;simp
  |cons x L ih=>
   intro R
   have h1:=ih (stepM R x)
   have h2:(stepM R x).length≤R.length+1:=by unfold stepM;split<;>simp
   rw[List.foldl_cons,List.length_cons]
   omega
 have:=this L []
 simpa [madeF]using this
theorem made_names {R:List RowP} (h:MadeOk R):(namesF R).length≤6:=by
 have hn:(namesF R).Nodup:=(names_namesF R).ord.imp fun h e=>by subst e;rw[lt_irrefl]at h;cases h
 exact Go.Vc.nodup_len hn (l:=nmL) fun k hk=>by
  obtain⟨r,hr,e⟩:=((names_namesF R).mem k).1 hk
  obtain⟨x,s,rfl,_⟩:=h.row r hr
  rw[←e]
  exact nmN_mem _
end Go.Slv
namespace Go.Proofs.YtjdieklgoepdjaaGreatDoor
open Go Go.Vc Go.Scr Go.Slv
def smallW (v:VerP):Bool:=decide (v.ma≤1000)&&decide (v.mi≤1000)&&decide (v.pa≤1000)&&decide (v.pre.length≤5)&&v.pre.all fun m=>decide (m.length≤16)
theorem verP_small (k:Nat):smallW (verP k)=true:=by
 have h: ∀ j:Fin 6,smallW ((verF ((verL[j.1]?).getD [])).getD ⟨0,0,0,[]⟩)=true:=by decide+kernel
 exact h ⟨k % 6,Nat.mod_lt _ (by decide)⟩
theorem verS_small {v:VerP} (h:smallW v=true):VerS v:=by
 unfold smallW at h
 simp only[Bool.and_eq_true,decide_eq_true_eq,List.all_eq_true]at h
 obtain⟨⟨⟨⟨h1,h2⟩,h3⟩,h4⟩,h5⟩:=h
 constructor<;>first|omega|(intro m hm;have:=h5 m hm;omega)
theorem made_bounds {R:List RowP} (h:MadeOk R):RowsB R:=by
 refine⟨fun r hr=> ?_,fun r hr=> ?_,fun r hr n hn=> ?_⟩
 ·obtain⟨x,s,rfl,_⟩:=h.row r hr
  exact verS_small (verP_small _)
 ·obtain⟨x,s,rfl,hl⟩:=h.row r hr
  have:=needsX_len (nmN x.n) x.needs
  show(needsX (nmN x.n) x.needs).length≤1000
  omega
 ·obtain⟨x,s,rfl,hl⟩:=h.row r hr
  obtain⟨j,rfl⟩:=needsX_mem hn
  exact needI_b j
theorem IdxA.intN {k:Go.IntKind} {H:Heap} {a:Option Addr} {l:List Nat} {n:Nat} {i:Int} {K:Addr→Prop} (h:Row H a (intsV k l)) (hn:l.length=n) (j:Nat) (x:Nat) (hi:i=j) (hx:l[j]? =some x)
  (hk: ∀ b o,hcell H ⟨b,o+j,none⟩=some (.int k x)→K ⟨b,o+j,none⟩):IdxA a n 1 i K:=by
 have hj:=(List.getElem?_eq_some_iff.1 hx).1
 rcases h.out with e|⟨b,o,e,hc⟩
 ·exfalso
  have:=congrArg List.length e
  simp[intsV]at this
  subst this
  simp at hj
 ·subst e
  exact IdxA.at1 j hi (by omega) (hk b o (hc j _ (by unfold intsV;rw[List.getElem?_map,hx];rfl)))
theorem quo6 {j:Nat} {K:Int→Prop} (h:j<65536) (hk:K ((j / 6:Nat):Int)):QuoH .u16 (j:Int) 6 K:=by
 refine⟨by omega,?_⟩
 rw[Int.tdiv_eq_ediv_of_nonneg (by omega),Go.Vc.wrap_small IntKind.u16 rfl (by omega) (by simp[IntKind.bits];omega),show((j:Int) / 6)=((j / 6:Nat):Int)by simp]
 exact hk
theorem rem6 {j:Nat} {K:Int→Prop} (hk:K ((j % 6:Nat):Int)):RemH (j:Int) 6 K:=by
 refine⟨by omega,?_⟩
 rw[Int.tmod_eq_emod_of_nonneg (by omega),show((j:Int) % 6)=((j % 6:Nat):Int)by simp]
 exact hk
theorem rem10 {j:Nat} {K:Int→Prop} (hk:K ((j % 10:Nat):Int)):RemH (j:Int) 10 K:=by
 refine⟨by omega,?_⟩
 rw[Int.tmod_eq_emod_of_nonneg (by omega),show((j:Int) % 10)=((j % 10:Nat):Int)by simp]
 exact hk
theorem spnN_len (k:Nat):(spnN k).length≤30:=by
 have h: ∀ j:Fin 10,((spnL[j.1]?).getD []).length≤30:=by decide
 exact h ⟨k % 10,Nat.mod_lt _ (by decide)⟩
theorem need_built {s t:ByteArray} {b:Bool} {a:Option Addr} {n c:Nat}:Go.Program.built Tryz.prog 45 [(0,.string s),(1,.agg #[.bool b,.slice a n c]),(2,.string t)]=some #[.string s,.bool b,.slice a n c,.string t]:=by kernel_rfl
structure NeS where
 i:Nat
 a:Option Addr
 cap:Nat
set_option maxHeartbeats 4000000 in
theorem sneeds_any (L:List Nat) (hL: ∀ x∈L,x<65536) (a:Option Addr) (n cap:Nat) (H:Heap) (hr:Row H a (intsV .u16 L)) (hn:L.length=n) (hnl:n≤1000):
  CallH Tryz.prog 20 [.slice a n cap] H fun x H'=>(∃ a' c',x= .slice a' (needsM L).length c'∧OwnE needT 4 H' H.size 45 a' (needsM L) c')∧Ext H H':=by
 refine Vc.CallH.body Tryz.func20 Tryz.call20 rfl (by decide+kernel) rfl ?_
 ((conv=>whnf);repeat(any_goals((first|((with_reducible refine Vc.DrawH.held [0,1,2,3,4,5,7,8,9,10,11,12,13,6,14,15,16] [(6,[10])] mixed (by decide+kernel) ?_))|refine Vc.stp ?_)<;>(intros;(conv=>whnf)))))
 refine LoopH.intro (fun(x:NeS)=>[(4,.int .i64 x.i),(3,.slice x.a (needsM (L.take x.i)).length x.cap)]) (fun x H'=>x.i≤n∧OwnE needT 4 H' H.size 45 x.a (needsM (L.take x.i)) x.cap∧Ext H H') (fun x=>n-x.i) ⟨0,none,0⟩ ⟨rfl,by rw[List.take_zero];rfl,trivial⟩ ⟨Nat.zero_le _,by dsimp only;rw[List.take_zero];exact OwnE.nil _ _ _ _ _,Ext.refl _⟩ ?_
 rintro⟨i,oa,oc⟩ H1 ⟨hi,ho1,hx1⟩
 dsimp only at hi ho1 ⊢
 have hz1:=hx1.size
 by_cases hlt:i<n
 ·obtain⟨j,hj⟩: ∃ j,L[i]? =some j:=⟨_,List.getElem?_eq_getElem (by omega)⟩
  have hj16:=hL j (List.mem_of_getElem? hj)
  have hsn:=needsM_snoc hj
  have hlen:=needsM_len (L.take i)
  rw[List.length_take]at hlen
  obtain⟨l,hl⟩: ∃ l,needsM (L.take i)=l:=⟨_,rfl⟩
  rw[hl]at ho1 hsn hlen ⊢
  have hcl:=ho1.cap_le
  ((conv=>whnf);repeat(any_goals((first|(refine IdxA.intN (hr.ext (by exact Vc.xt)) hn i j rfl hj ?_;intro _ _ _)|(refine quo6 hj16 ?_)|(refine rem6 ?_)|(refine rem10 ?_)|(refine(sname_any (j % 6) (by omega) _).mono ?_;rintro _ _ ⟨rfl,rfl⟩)|(refine(sspan_any (j / 6 % 10) (by omega) _).mono ?_;rintro _ H2 ⟨rfl,hx2⟩;have hz2:=hx2.size)|(refine(rspan_any (spnN (j / 6 % 10)) (by have:=spnN_len (j / 6 % 10);omega) _).mono ?_;rintro _ H3 ⟨hsp,hx3⟩;have hz3:=hx3.size;rw[spn_some]at hsp;obtain⟨sa,sc,rfl,hso⟩:=hsp)|((with_reducible refine Vc.DrawH.held [0,1,2,3,4,5,7,8,9,10,11,12,13,6,14,15,16] [(6,[10])] mixed (by decide+kernel) ?_))|refine Vc.stp ?_)<;>(intros;(conv=>whnf)))))
  rename_i H4 z4 b4 x4 H5 z5 b5 k5
  have hx15:Ext H1 H5:=(hx2.trans (hx3.trans x4)).but k5 (by omega)
  have hx35:Ext H3 H5:=x4.but k5 (by omega)
  have ho5:=ho1.ext needT_ok.ok hx15
  have hz5:=hx15.size
  refine LoopH.intro (fun(t:Nat)=>[(9,.int .i64 t)]) (fun t H'=>H5=H'∧t≤l.length∧ ∀ q x,q<t→l[q]? =some x→Op.bytesLess x.name (needI j).name=true) (fun t=>l.length-t) 0 ⟨rfl,trivial⟩ ⟨rfl,Nat.zero_le _,fun q x h=>absurd h (Nat.not_lt_zero _)⟩ ?_
  rintro t _ ⟨rfl,ht,hless⟩
  have htl:(l.take t).length=t:=by rw[List.length_take];omega
  have hdl:(l.drop t).length=l.length-t:=List.length_drop
  have hnT: ∀ H',Ext H5 H'→needT H' (needI j) [.string (mkS (nmN (j % 6))),.bool (spnP (j / 6 % 10)).any,.slice sa (spnP (j / 6 % 10)).or_.length sc,.string (mkS (spnN (j / 6 % 10)))]:=fun H' k=>⟨sa,sc,rfl,hso.cap_le,(hso.ext bndsT_ok.ok (hx35.trans k)).rowL⟩
  by_cases htn:t<l.length
  ·obtain⟨x,hx⟩: ∃ x,l[t]? =some x:=⟨_,List.getElem?_eq_getElem htn⟩
   have e1:Op.bytesLess (mkS x.name).toList (mkS (nmN (j % 6))).toList=Op.bytesLess x.name (needI j).name:=by rw[toListS,toListS];rfl
   have e2:((mkS x.name).toList==(mkS (nmN (j % 6))).toList)=decide (x.name=(needI j).name):=str_mk _ _
   by_cases hls:Op.bytesLess x.name (needI j).name=true
   ·rw[hls]at e1
    ((conv=>whnf);repeat(any_goals((first|(refine IdxA.el needT_ok.ok (by decide) ho5.row rfl t x rfl hx ?_;intro bx ox cx hcX hcl;obtain⟨xa,xc,ex,_,_⟩:=(id hcX);have hc0:hcell _ ⟨bx,ox+0,none⟩=some (Value.string (mkS x.name)):=hcl 0 _ (by rw[ex];rfl))|((with_reducible refine Vc.DrawH.held [0,1,2,3,4,5,7,8,9,10,11,12,13,6,14,15,16] [(6,[10])] mixed (by decide+kernel) ?_))|refine Vc.stp ?_)<;>(intros;(conv=>whnf)))))
    exact⟨t+1,⟨rfl,trivial⟩,⟨rfl,by omega,fun q y hq hy=>by
     by_cases hqt:q=t
     ·subst hqt;rw[hx]at hy;cases hy;exact hls
     ·exact hless q y (by omega) hy⟩,by omega⟩
   ·have hls:Op.bytesLess x.name (needI j).name=false:=by simpa using hls
    rw[hls]at e1
    have hins:=insN_at l (needI j) t hless (by omega) (fun y hy=>by rw[hx]at hy;cases hy;exact hls)
    rw[hx,Option.map_some]at hins
    by_cases hxe:x.name=(needI j).name
    ·rw[decide_eq_true hxe]at e2
     rw[if_pos (by rw[hxe])]at hins
     rw[hins]at hsn
     ((conv=>whnf);repeat(any_goals((first|(refine IdxA.el needT_ok.ok (by decide) ho5.row rfl t x rfl hx ?_;intro bx ox cx hcX hcl;obtain⟨xa,xc,ex,_,_⟩:=(id hcX);have hc0:hcell _ ⟨bx,ox+0,none⟩=some (Value.string (mkS x.name)):=hcl 0 _ (by rw[ex];rfl))|((with_reducible refine Vc.DrawH.held [0,1,2,3,4,5,7,8,9,10,11,12,13,6,14,15,16] [(6,[10])] mixed (by decide+kernel) ?_))|refine Vc.stp ?_)<;>(intros;(conv=>whnf)))))
     exact⟨⟨i+1,oa,oc⟩,⟨rfl,by dsimp only;rw[hsn];rfl,trivial⟩,⟨by show i+1≤n;omega,by dsimp only;rw[hsn];exact ho5,hx1.trans hx15⟩,by show n-(i+1)<n-i;omega⟩
    ·rw[decide_eq_false hxe]at e2
     rw[if_neg (fun e=>hxe (Option.some.inj e))]at hins
     rw[hins]at hsn
     ((conv=>whnf);repeat(any_goals((first|(refine IdxA.el needT_ok.ok (by decide) ho5.row rfl t x rfl hx ?_;intro bx ox cx hcX hcl;obtain⟨xa,xc,ex,_,_⟩:=(id hcX);have hc0:hcell _ ⟨bx,ox+0,none⟩=some (Value.string (mkS x.name)):=hcl 0 _ (by rw[ex];rfl))|(refine BndH.nat t rfl (by omega) ?_)|(show Go.Vc.PureH _ _ _;refine PureH.build3 _ need_built ?_)|(have:=ho7;refine NextH.full1 needT_ok.ok rfl ⟨_,rfl,fun _ h=>by cases h⟩ rfl rfl rfl rfl (by decide) ((ho5.row.ext needT_ok.ok hx57).take needT_ok.ok t) (by rw[List.length_take];omega) ho7.row (by rw[List.length_cons,List.length_drop];omega) (by omega) (by omega) ?_;intro c8 H8 ho8 hx8;have hz8:=hx8.size)|(rename_i Hl zl bl xl;refine NextH.pre1 needT_ok (c:=[.string (mkS (nmN (j % 6))),.bool (spnP (j / 6 % 10)).any,.slice sa (spnP (j / 6 % 10)).or_.length sc,.string (mkS (spnN (j / 6 % 10)))]) rfl ⟨_,rfl,fun _ h=>by cases h⟩ rfl rfl rfl rfl (by decide) (by decide) bl (hnT _ xl) ((ho5.row.ext needT_ok.ok xl).drop needT_ok.ok oc t (fun e=>by omega)) List.length_drop (by omega) ?_;intro a7 c7 H7 ho7 hw7;have hx57:Ext H5 H7:=xl.but hw7 (by omega);have hz7:=hx57.size)|((with_reducible refine Vc.DrawH.held [0,1,2,3,4,5,7,8,9,10,11,12,13,6,14,15,16] [(6,[10])] mixed (by decide+kernel) ?_))|refine Vc.stp ?_)<;>(intros;(conv=>whnf)))))
     have hlen2:(l.take t++needI j::l.drop t).length=t+(1+(l.length-t)):=(by rw[List.length_append,List.length_take,List.length_cons,List.length_drop];omega);exact⟨⟨i+1,some ⟨H7.size,0,none⟩,c8⟩,⟨rfl,by(show Value.slice _ _ _=Value.slice _ _ _;rw[hsn,hlen2]),trivial⟩,⟨by(show i+1≤n;omega),by(dsimp only;rw[hsn];exact ho8.base (by omega)),hx1.trans (hx15.trans (hx57.trans hx8))⟩,by(show n-(i+1)<n-i;omega)⟩
  ·obtain rfl:t=l.length:=by omega
   have hins:=insN_at l (needI j) l.length hless (Nat.le_refl _) (fun y hy=>by simp at hy)
   rw[show l[l.length]? =none by simp,if_neg (by simp)]at hins
   rw[hins]at hsn
   obtain⟨t,ht0⟩: ∃ t,t=l.length:=⟨_,rfl⟩
   rw[←ht0]at hsn htl hdl
   ((conv=>whnf);repeat(any_goals((first|(refine IdxA.el needT_ok.ok (by decide) ho5.row rfl t x rfl hx ?_;intro bx ox cx hcX hcl;obtain⟨xa,xc,ex,_,_⟩:=(id hcX);have hc0:hcell _ ⟨bx,ox+0,none⟩=some (Value.string (mkS x.name)):=hcl 0 _ (by rw[ex];rfl))|(refine BndH.nat t (by rw[ht0]) (by omega) ?_)|(show Go.Vc.PureH _ _ _;refine PureH.build3 _ need_built ?_)|(have:=ho7;refine NextH.full1 needT_ok.ok rfl ⟨_,rfl,fun _ h=>by cases h⟩ rfl rfl rfl rfl (by decide) ((ho5.row.ext needT_ok.ok hx57).take needT_ok.ok t) (by rw[List.length_take];omega) ho7.row (by rw[List.length_cons,List.length_drop];omega) (by omega) (by omega) ?_;intro c8 H8 ho8 hx8;have hz8:=hx8.size)|(rename_i Hl zl bl xl;refine NextH.pre1 needT_ok (c:=[.string (mkS (nmN (j % 6))),.bool (spnP (j / 6 % 10)).any,.slice sa (spnP (j / 6 % 10)).or_.length sc,.string (mkS (spnN (j / 6 % 10)))]) rfl ⟨_,rfl,fun _ h=>by cases h⟩ rfl rfl rfl rfl (by decide) (by decide) bl (hnT _ xl) ((ho5.row.ext needT_ok.ok xl).drop needT_ok.ok oc t (fun e=>by omega)) List.length_drop (by omega) ?_;intro a7 c7 H7 ho7 hw7;have hx57:Ext H5 H7:=xl.but hw7 (by omega);have hz7:=hx57.size)|((with_reducible refine Vc.DrawH.held [0,1,2,3,4,5,7,8,9,10,11,12,13,6,14,15,16] [(6,[10])] mixed (by decide+kernel) ?_))|refine Vc.stp ?_)<;>(intros;(conv=>whnf)))))
   have hlen2:(l.take t++needI j::l.drop t).length=t+(1+(l.length-t)):=(by rw[List.length_append,List.length_take,List.length_cons,List.length_drop];omega);exact⟨⟨i+1,some ⟨H7.size,0,none⟩,c8⟩,⟨rfl,by(show Value.slice _ _ _=Value.slice _ _ _;rw[hsn,hlen2]),trivial⟩,⟨by(show i+1≤n;omega),by(dsimp only;rw[hsn];exact ho8.base (by omega)),hx1.trans (hx15.trans (hx57.trans hx8))⟩,by(show n-(i+1)<n-i;omega)⟩
 ·obtain rfl:i=n:=by omega
  rw[List.take_of_length_le (by omega)]at ho1 ⊢
  ((conv=>whnf);repeat(any_goals((first|((with_reducible refine Vc.DrawH.held [0,1,2,3,4,5,7,8,9,10,11,12,13,6,14,15,16] [(6,[10])] mixed (by decide+kernel) ?_))|refine Vc.stp ?_)<;>(intros;(conv=>whnf)))))
  exact⟨⟨oa,oc,rfl,ho1⟩,hx1⟩
end Go.Proofs.YtjdieklgoepdjaaGreatDoor
namespace Go.Proofs.YtjdieklgoepdjaaGreatDoor
open Go Go.Vc Go.Scr Go.Pth Go.Tre Go.Slv
def fileT (H:Heap) (x:Bs×Tre.Node) (c:List Value):Prop:=∃ a cap,c=fileC x a cap∧RowT 5 H a (strV x.2.2)
theorem fileT_ok:EncT fileT 3 (fun t=>t=5):=⟨fun⟨_,_,e,_⟩=>by rw[e];rfl,fun⟨_,_,e,_⟩ u hu=>by
 rw[e]at hu
 simp[fileC]at hu
 rcases hu with rfl|rfl|rfl<;>rfl,fun k hF ⟨a,cap,e,r⟩=>⟨a,cap,e,r.keep k fun b c u f hb=>hF b c u f hb⟩⟩
theorem file_row {H:Heap} {a:Option Addr} {L:Tr} (h:RowE fileT H a L):RowF H a L:=by
 obtain⟨vs,h1,h2⟩:=h.out
 refine⟨vs,h1,?_⟩
 clear h1 h
 induction h2 with
 |nil=>exact .nil
 |cons h _ ih=>
  obtain⟨b,cap,rfl,hr⟩:=h
  exact .cons hr.row ih
theorem verN_len (k:Nat):(verN k).length≤20:=by
 have h: ∀ j:Fin 6,((verL[j.1]?).getD []).length≤20:=by decide
 exact h ⟨k % 6,Nat.mod_lt _ (by decide)⟩
def path1 (x:RowI):Txt:=[108,105,98,47]++nmN x.n
def text1 (x:RowI):Txt:=nmN x.n++[32]++verN x.v
theorem path1_eq (x:RowI):(⟨#[108,105,98,47]⟩:ByteArray)++mkS (nmN x.n)=mkS (path1 x):=by
 rw[show(⟨#[108,105,98,47]⟩:ByteArray)=mkS [108,105,98,47]from rfl,mkS_app];rfl
theorem text1_eq (x:RowI):mkS (nmN x.n)++(⟨#[32]⟩:ByteArray)++mkS (verN x.v)=mkS (text1 x):=by
 rw[show(⟨#[32]⟩:ByteArray)=mkS [32]from rfl,mkS_app,mkS_app];rfl
theorem file_built1 {s:ByteArray}:Go.Program.built Tryz.prog 142 [(0,.string s),(1,.bool true)]=some #[.string s,.bool true,.slice none 0 0]:=by kernel_rfl
theorem file_built2 {s:ByteArray} {a:Option Addr} {n c:Nat}:Go.Program.built Tryz.prog 142 [(0,.string s),(2,.slice a n c)]=some #[.string s,.bool false,.slice a n c]:=by kernel_rfl
structure FlS where
 s:ByteArray
 l:Tr
 a:Option Addr
 cap:Nat
structure BgS where
 i:Nat
 l:Bs
 a:Option Addr
 cap:Nat
set_option maxHeartbeats 4000000 in
theorem sfiles_any (x:RowI) (c:List Value) (H0 H:Heap) (hc:rinE H0 x c):
  CallH Tryz.prog 47 [.agg c.toArray] H fun v H'=>(∃ F a cap,v= .slice a (List.length F) cap∧RowF H' a F∧F.length≤4∧ ∀ f∈F,f.2.2.length≤1000)∧Ext H H':=by
 obtain⟨na,nc,ec,hcap,hnr,hbr⟩:=(id hc)
 subst ec
 obtain⟨hbn,hbv,_,hbk,hbl⟩:=id hbr
 refine Vc.CallH.body Tryz.func47 Tryz.call47 rfl (by decide+kernel) rfl ?_
 ((conv=>whnf);repeat(any_goals((first|((with_reducible refine Vc.DrawH.held [0,1,3,4,2,5,6,7] [(2,[4])] mixed (by decide+kernel) ?_))|refine Vc.stq ?_|refine Vc.spl ?_ ?_)<;>(intros;(conv=>whnf)))))
 rename_i H1 z1 b1 x1
 refine SeqH.cut (fun(_:Unit)=>[(3,.string (mkS (nmN x.n))),(4,.string (mkS (verN x.v)))]) (fun _ H'=>Ext H1 H') ?_ ?_
 ·((conv=>whnf);repeat(any_goals((first|(refine(sname_any x.n hbn _).mono ?_;rintro _ _ ⟨rfl,rfl⟩)|(refine(sversion_any x.v hbv _).mono ?_;rintro _ Hv ⟨rfl,hxv⟩;have hzv:=hxv.size)|((with_reducible refine Vc.DrawH.held [0,1,3,4,2,5,6,7] [(2,[4])] mixed (by decide+kernel) ?_))|refine Vc.stp ?_)<;>(intros;(conv=>whnf)))))
  all_goals exact⟨(),⟨rfl,rfl,trivial⟩,by exact Vc.xt⟩
 rintro _ H2 hx2
 have hz2:=hx2.size
 have hnl:=nmN_ne x.n
 have hvl:=verN_len x.v
 ((conv=>whnf);repeat(any_goals((first|(show Go.Vc.PureH _ _ _;refine PureH.build2 _ file_built1 ?_)|(show Go.Vc.PureH _ _ _;refine PureH.build2 _ file_built2 ?_)|(refine NeedH.mk ⟨by(simp only[ByteArray.size_append,szL2,szM2,List.length_cons,List.length_nil];omega),?_⟩)|((fail_if_success (have:=ho3));rw[text1_eq];refine SemH.of_string rfl rfl rfl (by rw[szM2];unfold maxLen text1;simp only[List.length_append,List.length_cons,List.length_nil];omega) ?_;intro c3 H3 ho3 hx3;have hz3:=hx3.size)|(rw[path1_eq];refine SemH.lit (vs:=[_,_]) rfl rfl rfl rfl rfl rfl (by kernel_rfl) ?_;intro H4 z4 b4 x4)|((with_reducible refine Vc.DrawH.held [0,1,3,4,2,5,6,7] [(2,[4])] mixed (by decide+kernel) ?_))|refine Vc.stq ?_|refine Vc.spl ?_ ?_)<;>(intros;(conv=>whnf)))))
 have hs3:(mkS (text1 x)).size=(text1 x).length:=rfl
 have ht1:(text1 x).length≤100:=by unfold text1;simp only[List.length_append,List.length_cons,List.length_nil];omega
 have hf1:OwnE fileT 3 H4 H3.size 142 (some ⟨H3.size,0,none⟩) [([108,105,98],true,[]),(path1 x,false,text1 x)] 2:=
  own_litE fileT_ok.ok b4 (LstV.cons (c:=[.string (mkS [108,105,98]),.bool true,.slice none 0 0]) ⟨none,0,rfl,RowT.nil _ _ _⟩ (LstV.one (c:=[.string (mkS (path1 x)),.bool false,.slice (some ⟨H2.size,0,none⟩) (mkS (text1 x)).size c3]) ⟨some ⟨H2.size,0,none⟩,c3,rfl,(ho3.rowT).ext x4⟩)) (Nat.le_refl _) (by simp)
 have hfb: ∀ f∈ [(([108,105,98]:Bs),(true,([]:Bs))),(path1 x,false,text1 x)],f.2.2.length≤1000:=fun f hf=>by
  simp only[List.mem_cons,List.not_mem_nil,or_false]at hf
  rcases hf with rfl|rfl
  ·simp
  ·show(text1 x).length≤1000;omega
 have hx04:=And.intro trivial (x1.trans (hx2.trans (hx3.trans x4)))
 obtain⟨kk,hkk⟩: ∃ kk,x.kind % 10=kk:=⟨_,rfl⟩
 refine SeqH.cut (fun(s:FlS)=>[(6,.string s.s),(5,.slice s.a s.l.length s.cap)]) (fun s H'=>s.s.size≤100∧s.l.length≤3∧(∀ f∈s.l,f.2.2.length≤1000)∧OwnE fileT 3 H' H3.size 142 s.a s.l s.cap∧Ext H3 H') ?_ ?_
 ·by_cases h8:kk=8
  ·subst h8
   ((conv=>whnf);repeat(any_goals((first|(refine rem10 ?_;rw[hkk])|((with_reducible refine Vc.DrawH.held [0,1,3,4,2,5,6,7] [(2,[4])] mixed (by decide+kernel) ?_))|refine Vc.stp ?_)<;>(intros;(conv=>whnf)))))
   refine LoopH.intro (fun(s:BgS)=>[(8,.int .i64 s.i),(7,.slice s.a s.l.length s.cap)]) (fun s H'=>s.i≤200∧s.l.length=s.i∧Own H' H4.size 5 1 s.a s.l.length s.cap (strV s.l)∧Ext H4 H') (fun s=>200-s.i) ⟨0,[],none,0⟩ ⟨rfl,rfl,trivial⟩ ⟨Nat.zero_le _,rfl,Own.nil _ _ _ _,Ext.refl _⟩ ?_
   rintro⟨i,bl,ba,bc⟩ H5 ⟨hi,hbl2,hob,hx5⟩
   dsimp only at hi hbl2 hob ⊢
   have hz5:=hx5.size
   by_cases hlt:i<200
   ·((conv=>whnf);repeat(any_goals((first|((with_reducible refine Vc.DrawH.held [0,1,3,4,2,5,6,7] [(2,[4])] mixed (by decide+kernel) ?_))|refine Vc.stp ?_)<;>(intros;(conv=>whnf)))))
    rename_i Hl zl bl' xl a6 c6 H6 ho6 hx6
    have hlen:(bl++[UInt8.ofNat i]).length=bl.length+1:=by simp
    have hby:strV (bl++[UInt8.ofNat i])=strV bl++[Value.int .u8 i]:=by
     rw[strV_append]
     congr 1
     unfold strV
     simp only[List.map_cons,List.map_nil]
     rw[show(UInt8.ofNat i).toNat=i from by rw[UInt8.toNat_ofNat'];omega]
    exact⟨⟨i+1,bl++[UInt8.ofNat i],a6,c6⟩,⟨rfl,by show Value.slice _ _ _=Value.slice _ _ _;rw[hlen],trivial⟩,⟨by show i+1≤200;omega,by show(bl++[UInt8.ofNat i]).length=i+1;omega,by dsimp only;rw[hby,hlen];exact ho6,hx6⟩,by show 200-(i+1)<200-i;omega⟩
   ·obtain rfl:i=200:=by omega
    ((conv=>whnf);repeat(any_goals((first|(show Go.Vc.PureH _ _ _;refine PureH.build2 _ file_built2 ?_)|((with_reducible refine Vc.DrawH.held [0,1,3,4,2,5,6,7] [(2,[4])] mixed (by decide+kernel) ?_))|refine Vc.stp ?_)<;>(intros;(conv=>whnf)))))
    rename_i H6 z6 b6 x6
    refine NextH.appE fileT_ok rfl ⟨_,rfl,fun _ h=>by cases h⟩ rfl rfl rfl rfl (by decide) (by decide) (hf1.ext fileT_ok.ok (hx5.trans x6)) rfl (Blk.row b6) (LstV.one (x:=(([98,105,103]:Bs),false,bl)) (c:=[.string (mkS [98,105,103]),.bool false,.slice ba bl.length bc]) ⟨ba,bc,rfl,(hob.rowT).ext x6⟩) rfl (by decide) (by omega) ?_
    intro a7 c7 H7 ho7 hw7 hf7
    have hx37:Ext H3 H7:=ext_wr2 (n:=H3.size+1) (x4.trans (hx5.trans x6)) (fun p hp=>by cases hp;exact⟨Nat.le_refl _,Nat.lt_succ_self _⟩) hw7
    ((conv=>whnf);repeat(any_goals((first|((with_reducible refine Vc.DrawH.held [0,1,3,4,2,5,6,7] [(2,[4])] mixed (by decide+kernel) ?_))|refine Vc.stp ?_)<;>(intros;(conv=>whnf)))))
    exact⟨⟨⟨#[]⟩,[(([108,105,98]:Bs),(true,([]:Bs))),(path1 x,false,text1 x),([98,105,103],false,bl)],a7,c7⟩,⟨rfl,rfl,trivial⟩,by(dsimp only;decide),by simp,fun f hf=>by
     rcases List.mem_append.1 (show f∈ [(([108,105,98]:Bs),(true,([]:Bs))),(path1 x,false,text1 x)]++[(([98,105,103]:Bs),false,bl)]from hf)with hf|hf
     ·exact hfb f hf
     ·rw[List.mem_singleton]at hf;subst hf;show bl.length≤1000;omega,ho7,hx37⟩
  ·((conv=>whnf);repeat(any_goals((first|(refine rem10 ?_;rw[hkk])|((with_reducible refine Vc.DrawH.held [0,1,3,4,2,5,6,7] [(2,[4])] mixed (by decide+kernel) ?_))|refine Vc.stp ?_|refine Vc.spl ?_ ?_)<;>(intros;(conv=>whnf)))))
   all_goals exact⟨⟨_,[(([108,105,98]:Bs),(true,([]:Bs))),(path1 x,false,text1 x)],some ⟨H3.size,0,none⟩,2⟩,⟨rfl,rfl,trivial⟩,by(dsimp only;decide),by simp,hfb,hf1,x4⟩
 rintro⟨s,l,a,cap⟩ H5 ⟨hss,hll,hlb,ho5,hx5⟩
 dsimp only at hss hll hlb ho5 ⊢
 have hz5:=hx5.size
 ((conv=>whnf);repeat(any_goals((first|(refine SemH.of_string rfl rfl rfl (by unfold maxLen;omega) ?_;intro c6 H6 ho6 hx6;have hz6:=hx6.size)|(show Go.Vc.PureH _ _ _;refine PureH.build2 _ file_built2 ?_)|((with_reducible refine Vc.DrawH.held [0,1,3,4,2,5,6,7] [(2,[4])] mixed (by decide+kernel) ?_))|refine Vc.stp ?_|refine Vc.spl ?_ ?_)<;>(intros;(conv=>whnf)))))
 ·exact⟨⟨l,a,cap,rfl,file_row ho5.row,by omega,hlb⟩,(x1.trans (hx2.trans hx3)).trans hx5⟩
 ·rename_i H7 z7 b7 x7
  have hx57:Ext H5 H7:=hx6.trans x7
  refine NextH.appE fileT_ok rfl ⟨_,rfl,fun _ h=>by cases h⟩ rfl rfl rfl rfl (by decide) (by decide) (ho5.ext fileT_ok.ok hx57) rfl (Blk.row b7) (LstV.one (x:=(([98,117,105,108,100,46,104,115]:Bs),false,s.data.toList)) (c:=[.string (mkS [98,117,105,108,100,46,104,115]),.bool false,.slice (some ⟨H5.size,0,none⟩) s.size c6]) ⟨some ⟨H5.size,0,none⟩,c6,rfl,(ho6.rowT).ext x7⟩) rfl (by omega) (by omega) ?_
  intro a8 c8 H8 ho8 hw8 hf8
  have hx38:Ext H3 H8:=ext_wr2 (n:=H5.size) (hx5.trans hx57) (fun p hp=>ho5.block p hp) hw8
  ((conv=>whnf);repeat(any_goals((first|((with_reducible refine Vc.DrawH.held [0,1,3,4,2,5,6,7] [(2,[4])] mixed (by decide+kernel) ?_))|refine Vc.stp ?_)<;>(intros;(conv=>whnf)))))
  refine⟨⟨l++[(([98,117,105,108,100,46,104,115]:Bs),false,s.data.toList)],a8,c8,by rw[List.length_append];rfl,file_row ho8.row,by rw[List.length_append];simp;omega,fun f hf=> ?_⟩,(x1.trans (hx2.trans hx3)).trans hx38⟩
  rcases List.mem_append.1 hf with hf|hf
  ·exact hlb f hf
  ·rw[List.mem_singleton]at hf;subst hf
   show s.data.toList.length≤1000
   have e:s.data.toList.length=s.size:=rfl
   omega
end Go.Proofs.YtjdieklgoepdjaaGreatDoor
