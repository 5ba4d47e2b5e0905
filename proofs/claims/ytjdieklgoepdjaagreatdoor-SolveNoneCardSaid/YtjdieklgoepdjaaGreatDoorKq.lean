import Derived.Test.YtjdieklgoepdjaaGreatDoorKm
set_option linter.unusedVariables false
set_option linter.unusedSimpArgs false
set_option maxRecDepth 100000
/- The reference: which of two is better; what is picked stands in order. -/
namespace Go.Slv
open Go.Scr Go.Tre
theorem zip_fst {α β:Type}: ∀ (l:List α) (m:List β),((l.zip m).map Prod.fst).Sublist l
 |[],m=>by simp
 |a::l,[]=>by simp
 |a::l,b::m=>by simpa using zip_fst l m
theorem pick_sort (R:List RowP) (L:List Nat) (i:Nat):SortP (pickF R L i):=by
 unfold SortP pickF
 rw[List.pairwise_filterMap]
 have h1:((((namesF R).zip L).take i).map Prod.fst).Pairwise fun a b=>Op.bytesLess a b=true:=by
  rw[List.map_take]
  exact List.Pairwise.sublist ((List.take_sublist _ _).trans (zip_fst _ _)) (names_namesF R).ord
 rw[List.pairwise_map]at h1
 refine h1.imp fun{a b} h p hp q hq=> ?_
 obtain⟨r,_,e1,e2⟩:=pick_row hp
 obtain⟨s,_,e3,e4⟩:=pick_row hq
 subst e1 e3
 show Op.bytesLess r.name s.name=true
 rw[e2,e4]
 exact h
end Go.Slv
namespace Go.Proofs.YtjdieklgoepdjaaGreatDoor
open Go Go.Vc Go.Scr Go.Slv
set_option maxHeartbeats 4000000 in
theorem rbetter_any (A B:List PinP) (hAv: ∀ p∈A,VerB p.v) (hBv: ∀ p∈B,VerB p.v) (a b:Option Addr) (n m ca cb:Nat) (H:Heap) (hA:RowE pinE H a A) (hB:RowE pinE H b B) (hn:A.length=n) (hm:B.length=m) (hnl:n≤1000000) (hml:m≤1000000):
  CallH Tryz.prog 41 [.slice a n ca,.slice b m cb] H fun x H'=>x= .bool (betterP A B)∧Ext H H':=by
 obtain⟨Z,hZ⟩: ∃ Z,betterP A B=Z:=⟨_,rfl⟩
 rw[hZ]
 refine Vc.CallH.body Tryz.func41 Tryz.call41 rfl (by decide+kernel) rfl ?_
 ((conv=>whnf);repeat(any_goals((first|refine Vc.stp ?_)<;>(intros;(conv=>whnf)))))
 refine LoopH.intro (fun(i:Nat)=>[(5,.int .i64 i),(6,.int .i64 i)]) (fun i H'=>i≤n∧i≤m∧Z=betterP (A.drop i) (B.drop i)∧Ext H H') (fun i=>n-i) 0 ⟨rfl,rfl,trivial⟩ ⟨Nat.zero_le _,Nat.zero_le _,hZ.symm,Ext.refl _⟩ ?_
 rintro i H1 ⟨hi,hk,hinv,hx1⟩
 have hz1:=hx1.size
 by_cases h1:i<n
 ·obtain⟨p,hp⟩: ∃ p,A[i]? =some p:=⟨_,List.getElem?_eq_getElem (by omega)⟩
  have hdA:A.drop i=p::A.drop (i+1):=by rw[List.drop_eq_getElem_cons (by omega)];rw[List.getElem?_eq_getElem (by omega)]at hp;injection hp with hp;rw[hp]
  rw[hdA]at hinv
  have hpb:=hAv p (List.mem_of_getElem? hp)
  by_cases h2:i<m
  ·obtain⟨q,hq⟩: ∃ q,B[i]? =some q:=⟨_,List.getElem?_eq_getElem (by omega)⟩
   have hdB:B.drop i=q::B.drop (i+1):=by rw[List.drop_eq_getElem_cons (by omega)];rw[List.getElem?_eq_getElem (by omega)]at hq;injection hq with hq;rw[hq]
   rw[hdB,betterP]at hinv
   have hqb:=hBv q (List.mem_of_getElem? hq)
   have e1:Op.bytesLess (mkS p.name).toList (mkS q.name).toList=Op.bytesLess p.name q.name:=by rw[toListS,toListS]
   have e2:((mkS p.name).toList==(mkS q.name).toList)=decide (p.name=q.name):=str_mk _ _
   by_cases k1:Op.bytesLess p.name q.name=true
   ·rw[if_pos k1]at hinv
    rw[k1]at e1
    ((conv=>whnf);repeat(any_goals((first|(refine IdxA.pin hA hn i p rfl hp ?_;intro b1 o1 c1 pa1 pc1 hp1 hl1 hpl1 hpr1 hcl1 hn1 hv1)|(refine IdxA.pin hB hm i q rfl hq ?_;intro b2 o2 c2 pa2 pc2 hp2 hl2 hpl2 hpr2 hcl2 hn2 hv2)|((with_reducible apply SemH.load_ver);(focus((exact hv1)));(focus((exact hx1.trans (by exact Vc.xt))));(focus((conv=>whnf))))|((with_reducible apply SemH.load_ver);(focus((exact hv2)));(focus((exact hx1.trans (by exact Vc.xt))));(focus((conv=>whnf))))|(refine(rcmpv_any p.v q.v hpb hqb _ _ _ (verO_of hpl1 (hpr1.ext (hx1.trans (by exact Vc.xt)))) (verO_of hpl2 (hpr2.ext (hx1.trans (by exact Vc.xt))))).mono ?_;rintro _ H4 ⟨rfl,hx4⟩;have hz4:=hx4.size)|refine Vc.stp ?_)<;>(intros;(conv=>whnf)))))
    exact⟨by rw[hinv];rfl,hx1⟩
   have k1':Op.bytesLess p.name q.name=false:=by simpa using k1
   rw[k1']at e1
   rw[if_neg k1]at hinv
   by_cases k2:Op.bytesLess q.name p.name=true
   ·rw[if_pos k2]at hinv
    have e3:(Op.bytesLess (mkS p.name).toList (mkS q.name).toList || (mkS p.name).toList==(mkS q.name).toList)=false:=by rw[e1,e2,decide_eq_false fun e=>by rw[e,Go.Tre.lt_irrefl]at k2;cases k2];rfl
    ((conv=>whnf);repeat(any_goals((first|(refine IdxA.pin hA hn i p rfl hp ?_;intro b1 o1 c1 pa1 pc1 hp1 hl1 hpl1 hpr1 hcl1 hn1 hv1)|(refine IdxA.pin hB hm i q rfl hq ?_;intro b2 o2 c2 pa2 pc2 hp2 hl2 hpl2 hpr2 hcl2 hn2 hv2)|((with_reducible apply SemH.load_ver);(focus((exact hv1)));(focus((exact hx1.trans (by exact Vc.xt))));(focus((conv=>whnf))))|((with_reducible apply SemH.load_ver);(focus((exact hv2)));(focus((exact hx1.trans (by exact Vc.xt))));(focus((conv=>whnf))))|(refine(rcmpv_any p.v q.v hpb hqb _ _ _ (verO_of hpl1 (hpr1.ext (hx1.trans (by exact Vc.xt)))) (verO_of hpl2 (hpr2.ext (hx1.trans (by exact Vc.xt))))).mono ?_;rintro _ H4 ⟨rfl,hx4⟩;have hz4:=hx4.size)|refine Vc.stp ?_)<;>(intros;(conv=>whnf)))))
    exact⟨by rw[hinv];rfl,hx1⟩
   ·rw[if_neg k2]at hinv
    have hpq:p.name=q.name:=by
     apply Classical.byContradiction
     intro e
     exact k2 (Go.Tre.lt_tri k1' e)
    have e3:(Op.bytesLess (mkS p.name).toList (mkS q.name).toList || (mkS p.name).toList==(mkS q.name).toList)=true:=by rw[e1,e2,decide_eq_true hpq];rfl
    by_cases k3:cmpV p.v q.v=0
    ·rw[if_pos k3]at hinv
     ((conv=>whnf);repeat(any_goals((first|(refine IdxA.pin hA hn i p rfl hp ?_;intro b1 o1 c1 pa1 pc1 hp1 hl1 hpl1 hpr1 hcl1 hn1 hv1)|(refine IdxA.pin hB hm i q rfl hq ?_;intro b2 o2 c2 pa2 pc2 hp2 hl2 hpl2 hpr2 hcl2 hn2 hv2)|((with_reducible apply SemH.load_ver);(focus((exact hv1)));(focus((exact hx1.trans (by exact Vc.xt))));(focus((conv=>whnf))))|((with_reducible apply SemH.load_ver);(focus((exact hv2)));(focus((exact hx1.trans (by exact Vc.xt))));(focus((conv=>whnf))))|(refine(rcmpv_any p.v q.v hpb hqb _ _ _ (verO_of hpl1 (hpr1.ext (hx1.trans (by exact Vc.xt)))) (verO_of hpl2 (hpr2.ext (hx1.trans (by exact Vc.xt))))).mono ?_;rintro _ H4 ⟨rfl,hx4⟩;have hz4:=hx4.size)|refine Vc.stp ?_)<;>(intros;(conv=>whnf)))))
     exact⟨i+1,⟨rfl,rfl,trivial⟩,⟨by omega,by omega,hinv,hx1.trans (by exact Vc.xt)⟩,by omega⟩
    ·rw[if_neg k3]at hinv
     ((conv=>whnf);repeat(any_goals((first|(refine IdxA.pin hA hn i p rfl hp ?_;intro b1 o1 c1 pa1 pc1 hp1 hl1 hpl1 hpr1 hcl1 hn1 hv1)|(refine IdxA.pin hB hm i q rfl hq ?_;intro b2 o2 c2 pa2 pc2 hp2 hl2 hpl2 hpr2 hcl2 hn2 hv2)|((with_reducible apply SemH.load_ver);(focus((exact hv1)));(focus((exact hx1.trans (by exact Vc.xt))));(focus((conv=>whnf))))|((with_reducible apply SemH.load_ver);(focus((exact hv2)));(focus((exact hx1.trans (by exact Vc.xt))));(focus((conv=>whnf))))|(refine(rcmpv_any p.v q.v hpb hqb _ _ _ (verO_of hpl1 (hpr1.ext (hx1.trans (by exact Vc.xt)))) (verO_of hpl2 (hpr2.ext (hx1.trans (by exact Vc.xt))))).mono ?_;rintro _ H4 ⟨rfl,hx4⟩;have hz4:=hx4.size)|refine Vc.stp ?_)<;>(intros;(conv=>whnf)))))
     exact⟨by rw[hinv];rfl,hx1.trans (by exact Vc.xt)⟩
  ·rw[List.drop_of_length_le (show B.length≤i by omega),betterP]at hinv
   ((conv=>whnf);repeat(any_goals((first|(refine IdxA.pin hA hn i p rfl hp ?_;intro b1 o1 c1 pa1 pc1 hp1 hl1 hpl1 hpr1 hcl1 hn1 hv1)|(refine IdxA.pin hB hm i q rfl hq ?_;intro b2 o2 c2 pa2 pc2 hp2 hl2 hpl2 hpr2 hcl2 hn2 hv2)|((with_reducible apply SemH.load_ver);(focus((exact hv1)));(focus((exact hx1.trans (by exact Vc.xt))));(focus((conv=>whnf))))|((with_reducible apply SemH.load_ver);(focus((exact hv2)));(focus((exact hx1.trans (by exact Vc.xt))));(focus((conv=>whnf))))|(refine(rcmpv_any p.v q.v hpb hqb _ _ _ (verO_of hpl1 (hpr1.ext (hx1.trans (by exact Vc.xt)))) (verO_of hpl2 (hpr2.ext (hx1.trans (by exact Vc.xt))))).mono ?_;rintro _ H4 ⟨rfl,hx4⟩;have hz4:=hx4.size)|refine Vc.stp ?_)<;>(intros;(conv=>whnf)))))
   exact⟨by rw[hinv];rfl,hx1⟩
 ·rw[List.drop_of_length_le (show A.length≤i by omega)]at hinv
  have hinv2:Z=false:=by rw[hinv];cases B.drop i<;>rfl
  by_cases h2:i<m
  all_goals((conv=>whnf);repeat(any_goals((first|(refine IdxA.pin hA hn i p rfl hp ?_;intro b1 o1 c1 pa1 pc1 hp1 hl1 hpl1 hpr1 hcl1 hn1 hv1)|(refine IdxA.pin hB hm i q rfl hq ?_;intro b2 o2 c2 pa2 pc2 hp2 hl2 hpl2 hpr2 hcl2 hn2 hv2)|((with_reducible apply SemH.load_ver);(focus((exact hv1)));(focus((exact hx1.trans (by exact Vc.xt))));(focus((conv=>whnf))))|((with_reducible apply SemH.load_ver);(focus((exact hv2)));(focus((exact hx1.trans (by exact Vc.xt))));(focus((conv=>whnf))))|(refine(rcmpv_any p.v q.v hpb hqb _ _ _ (verO_of hpl1 (hpr1.ext (hx1.trans (by exact Vc.xt)))) (verO_of hpl2 (hpr2.ext (hx1.trans (by exact Vc.xt))))).mono ?_;rintro _ H4 ⟨rfl,hx4⟩;have hz4:=hx4.size)|refine Vc.stp ?_)<;>(intros;(conv=>whnf)))))
  all_goals exact⟨by rw[hinv2];rfl,hx1⟩
end Go.Proofs.YtjdieklgoepdjaaGreatDoor
