import Derived.Test.YtjdieklgoepdjaaGreatDoorKg
import Derived.Test.YtjdieklgoepdjaaGreatDoorKp
import Derived.Test.YtjdieklgoepdjaaGreatDoorKd
import Derived.Test.YtjdieklgoepdjaaGreatDoorKk
set_option linter.unusedVariables false
set_option linter.unusedSimpArgs false
set_option maxRecDepth 100000
/- The code: which of two is better. -/
namespace Go.Proofs.YtjdieklgoepdjaaGreatDoor
open Go Go.Vc Go.Scr Go.Slv
set_option maxHeartbeats 4000000 in
theorem sbetter_any (A B:List PinP) (hAv: ∀ p∈A,VerB p.v) (hBv: ∀ p∈B,VerB p.v) (a b:Option Addr) (n m ca cb:Nat) (H:Heap) (hA:RowE pinE H a A) (hB:RowE pinE H b B) (hn:A.length=n) (hm:B.length=m) (hnl:n≤1000000) (hml:m≤1000000):
  CallH Tryz.prog 40 [.slice a n ca,.slice b m cb] H fun x H'=>x= .bool (betterP A B)∧Ext H H':=by
 obtain⟨Z,hZ⟩: ∃ Z,betterP A B=Z:=⟨_,rfl⟩
 rw[hZ]
 refine Vc.CallH.body Tryz.func40 Tryz.call40 rfl (by decide+kernel) rfl ?_
 ((conv=>whnf);repeat(any_goals((first|refine Vc.stp ?_)<;>(intros;(conv=>whnf)))))
 refine LoopH.intro (fun(i:Nat)=>[(5,.int .i64 i)]) (fun i H'=>i≤n∧i≤m∧Z=betterP (A.drop i) (B.drop i)∧Ext H H') (fun i=>n-i) 0 ⟨rfl,trivial⟩ ⟨Nat.zero_le _,Nat.zero_le _,hZ.symm,Ext.refl _⟩ ?_
 rintro i H1 ⟨hi,hk,hinv,hx1⟩
 have hz1:=hx1.size
 by_cases h1:i<n
 ·obtain⟨p,hp⟩: ∃ p,A[i]? =some p:=⟨_,List.getElem?_eq_getElem (by omega)⟩
  have hdA:A.drop i=p::A.drop (i+1):=by rw[List.drop_eq_getElem_cons (by omega)];rw[List.getElem?_eq_getElem (by omega)]at hp;injection hp with hp;rw[hp]
  rw[hdA]at hinv
  have hpb:=hAv p (List.mem_of_getElem? hp)
  by_cases h2:i<m
  ·obtain⟨q,hq⟩: ∃ q,B[i]? =some q:=⟨_,List.getElem?_eq_getElem (by omega)⟩
   have hdB:B.drop i=q::B.drop (i+1):=by rw[List.drop_eq_getElem_cons (by omega)];rw[List.getElem?_eq_getElem (by omega)]at hq;injection hq with hq;rw[hq]
   rw[hdB,betterP]at hinv
   have hqb:=hBv q (List.mem_of_getElem? hq)
   by_cases k1:Op.bytesLess p.name q.name=true
   ·rw[if_pos k1]at hinv
    have hct:cmpT p.name q.name= -1:=by unfold cmpT;rw[if_pos k1]
    ((conv=>whnf);repeat(any_goals((first|(refine IdxA.pin hA hn i p rfl hp ?_;intro b1 o1 c1 pa1 pc1 hp1 hl1 hpl1 hpr1 hcl1 hn1 hv1)|(refine IdxA.pin hB hm i q rfl hq ?_;intro b2 o2 c2 pa2 pc2 hp2 hl2 hpl2 hpr2 hcl2 hn2 hv2)|(refine(cmps_any p.name q.name _).mono ?_;rintro _ _ ⟨rfl,rfl⟩;rw[hct])|((with_reducible apply SemH.load_ver);(focus((exact hv1)));(focus((exact hx1.trans (by exact Vc.xt))));(focus((conv=>whnf))))|((with_reducible apply SemH.load_ver);(focus((exact hv2)));(focus((exact hx1.trans (by exact Vc.xt))));(focus((conv=>whnf))))|(refine(vcmp_any p.v q.v hpb hqb _ _ _ (verO_of hpl1 (hpr1.ext (hx1.trans (by exact Vc.xt)))) (verO_of hpl2 (hpr2.ext (hx1.trans (by exact Vc.xt))))).mono ?_;rintro _ H4 ⟨rfl,hx4⟩;have hz4:=hx4.size)|refine Vc.stp ?_)<;>(intros;(conv=>whnf)))))
    exact⟨by rw[hinv];rfl,hx1⟩
   rw[if_neg k1]at hinv
   by_cases k2:Op.bytesLess q.name p.name=true
   ·rw[if_pos k2]at hinv
    have hct:cmpT p.name q.name=1:=by unfold cmpT;rw[if_neg k1,if_pos k2]
    ((conv=>whnf);repeat(any_goals((first|(refine IdxA.pin hA hn i p rfl hp ?_;intro b1 o1 c1 pa1 pc1 hp1 hl1 hpl1 hpr1 hcl1 hn1 hv1)|(refine IdxA.pin hB hm i q rfl hq ?_;intro b2 o2 c2 pa2 pc2 hp2 hl2 hpl2 hpr2 hcl2 hn2 hv2)|(refine(cmps_any p.name q.name _).mono ?_;rintro _ _ ⟨rfl,rfl⟩;rw[hct])|((with_reducible apply SemH.load_ver);(focus((exact hv1)));(focus((exact hx1.trans (by exact Vc.xt))));(focus((conv=>whnf))))|((with_reducible apply SemH.load_ver);(focus((exact hv2)));(focus((exact hx1.trans (by exact Vc.xt))));(focus((conv=>whnf))))|(refine(vcmp_any p.v q.v hpb hqb _ _ _ (verO_of hpl1 (hpr1.ext (hx1.trans (by exact Vc.xt)))) (verO_of hpl2 (hpr2.ext (hx1.trans (by exact Vc.xt))))).mono ?_;rintro _ H4 ⟨rfl,hx4⟩;have hz4:=hx4.size)|refine Vc.stp ?_)<;>(intros;(conv=>whnf)))))
    exact⟨by rw[hinv];rfl,hx1⟩
   ·rw[if_neg k2]at hinv
    have hct:cmpT p.name q.name=0:=by unfold cmpT;rw[if_neg k1,if_neg k2]
    by_cases k3:cmpV p.v q.v=0
    ·rw[if_pos k3]at hinv
     ((conv=>whnf);repeat(any_goals((first|(refine IdxA.pin hA hn i p rfl hp ?_;intro b1 o1 c1 pa1 pc1 hp1 hl1 hpl1 hpr1 hcl1 hn1 hv1)|(refine IdxA.pin hB hm i q rfl hq ?_;intro b2 o2 c2 pa2 pc2 hp2 hl2 hpl2 hpr2 hcl2 hn2 hv2)|(refine(cmps_any p.name q.name _).mono ?_;rintro _ _ ⟨rfl,rfl⟩;rw[hct])|((with_reducible apply SemH.load_ver);(focus((exact hv1)));(focus((exact hx1.trans (by exact Vc.xt))));(focus((conv=>whnf))))|((with_reducible apply SemH.load_ver);(focus((exact hv2)));(focus((exact hx1.trans (by exact Vc.xt))));(focus((conv=>whnf))))|(refine(vcmp_any p.v q.v hpb hqb _ _ _ (verO_of hpl1 (hpr1.ext (hx1.trans (by exact Vc.xt)))) (verO_of hpl2 (hpr2.ext (hx1.trans (by exact Vc.xt))))).mono ?_;rintro _ H4 ⟨rfl,hx4⟩;have hz4:=hx4.size)|refine Vc.stp ?_)<;>(intros;(conv=>whnf)))))
     exact⟨i+1,⟨rfl,trivial⟩,⟨by omega,by omega,hinv,hx1.trans (by exact Vc.xt)⟩,by omega⟩
    ·rw[if_neg k3]at hinv
     ((conv=>whnf);repeat(any_goals((first|(refine IdxA.pin hA hn i p rfl hp ?_;intro b1 o1 c1 pa1 pc1 hp1 hl1 hpl1 hpr1 hcl1 hn1 hv1)|(refine IdxA.pin hB hm i q rfl hq ?_;intro b2 o2 c2 pa2 pc2 hp2 hl2 hpl2 hpr2 hcl2 hn2 hv2)|(refine(cmps_any p.name q.name _).mono ?_;rintro _ _ ⟨rfl,rfl⟩;rw[hct])|((with_reducible apply SemH.load_ver);(focus((exact hv1)));(focus((exact hx1.trans (by exact Vc.xt))));(focus((conv=>whnf))))|((with_reducible apply SemH.load_ver);(focus((exact hv2)));(focus((exact hx1.trans (by exact Vc.xt))));(focus((conv=>whnf))))|(refine(vcmp_any p.v q.v hpb hqb _ _ _ (verO_of hpl1 (hpr1.ext (hx1.trans (by exact Vc.xt)))) (verO_of hpl2 (hpr2.ext (hx1.trans (by exact Vc.xt))))).mono ?_;rintro _ H4 ⟨rfl,hx4⟩;have hz4:=hx4.size)|refine Vc.stp ?_)<;>(intros;(conv=>whnf)))))
     exact⟨by rw[hinv];rfl,hx1.trans (by exact Vc.xt)⟩
  ·rw[List.drop_of_length_le (show B.length≤i by omega),betterP]at hinv
   ((conv=>whnf);repeat(any_goals((first|(refine IdxA.pin hA hn i p rfl hp ?_;intro b1 o1 c1 pa1 pc1 hp1 hl1 hpl1 hpr1 hcl1 hn1 hv1)|(refine IdxA.pin hB hm i q rfl hq ?_;intro b2 o2 c2 pa2 pc2 hp2 hl2 hpl2 hpr2 hcl2 hn2 hv2)|(refine(cmps_any p.name q.name _).mono ?_;rintro _ _ ⟨rfl,rfl⟩;rw[hct])|((with_reducible apply SemH.load_ver);(focus((exact hv1)));(focus((exact hx1.trans (by exact Vc.xt))));(focus((conv=>whnf))))|((with_reducible apply SemH.load_ver);(focus((exact hv2)));(focus((exact hx1.trans (by exact Vc.xt))));(focus((conv=>whnf))))|(refine(vcmp_any p.v q.v hpb hqb _ _ _ (verO_of hpl1 (hpr1.ext (hx1.trans (by exact Vc.xt)))) (verO_of hpl2 (hpr2.ext (hx1.trans (by exact Vc.xt))))).mono ?_;rintro _ H4 ⟨rfl,hx4⟩;have hz4:=hx4.size)|refine Vc.stp ?_)<;>(intros;(conv=>whnf)))))
   exact⟨by rw[hinv];rfl,hx1⟩
 ·rw[List.drop_of_length_le (show A.length≤i by omega)]at hinv
  have hinv2:Z=false:=by rw[hinv];cases B.drop i<;>rfl
  by_cases h2:i<m
  all_goals((conv=>whnf);repeat(any_goals((first|(refine IdxA.pin hA hn i p rfl hp ?_;intro b1 o1 c1 pa1 pc1 hp1 hl1 hpl1 hpr1 hcl1 hn1 hv1)|(refine IdxA.pin hB hm i q rfl hq ?_;intro b2 o2 c2 pa2 pc2 hp2 hl2 hpl2 hpr2 hcl2 hn2 hv2)|(refine(cmps_any p.name q.name _).mono ?_;rintro _ _ ⟨rfl,rfl⟩;rw[hct])|((with_reducible apply SemH.load_ver);(focus((exact hv1)));(focus((exact hx1.trans (by exact Vc.xt))));(focus((conv=>whnf))))|((with_reducible apply SemH.load_ver);(focus((exact hv2)));(focus((exact hx1.trans (by exact Vc.xt))));(focus((conv=>whnf))))|(refine(vcmp_any p.v q.v hpb hqb _ _ _ (verO_of hpl1 (hpr1.ext (hx1.trans (by exact Vc.xt)))) (verO_of hpl2 (hpr2.ext (hx1.trans (by exact Vc.xt))))).mono ?_;rintro _ H4 ⟨rfl,hx4⟩;have hz4:=hx4.size)|refine Vc.stp ?_)<;>(intros;(conv=>whnf)))))
  all_goals exact⟨by rw[hinv2];rfl,hx1⟩
end Go.Proofs.YtjdieklgoepdjaaGreatDoor
namespace Go.Proofs.YtjdieklgoepdjaaGreatDoor
open Go Go.Vc Go.Scr Go.Slv
theorem join_small: ∀ (l:List Bs),(∀ m∈l,m.length≤16)→(Lib.join l [46]).length≤17*l.length
 |[],_=>by simp[Lib.join]
 |[x],h=>by
  have:=h x (by simp)
  simp[Lib.join];omega
 |x::y::l,h=>by
  have h1:=h x (by simp)
  have h2:=join_small (y::l) (fun m hm=>h m (List.mem_cons_of_mem _ hm))
  simp[Lib.join]at h2 ⊢
  omega
def verT (v:VerP):Bs:=Lib.itoa (v.ma:Int)++[46]++Lib.itoa (v.mi:Int)++[46]++Lib.itoa (v.pa:Int)++(if v.pre=[]then []else [45]++Lib.join v.pre [46])
set_option maxHeartbeats 1000000 in
theorem vtext_any (v:VerP) (hv:VerS v) (a:Option Addr) (c:Nat) {H:Heap} (hg:Glb H) (hl:v.pre.length≤c) (hr:Row H a (strs v.pre)):CallH Tryz.prog 124 [verC v a c] H fun x H'=>x= .string (mkS (verT v))∧Ext H H':=by
 have h1:=hv.ma
 have h2:=hv.mi
 have h3:=hv.pa
 have h4:=hv.len
 have e1:max ((v.ma:Nat):Int) 0=v.ma:=by omega
 have e2:max ((v.mi:Nat):Int) 0=v.mi:=by omega
 have e3:max ((v.pa:Nat):Int) 0=v.pa:=by omega
 have sA:(mkS (Lib.itoa (v.ma:Int))).size=(Lib.itoa (v.ma:Int)).length:=rfl
 have sB:(mkS (Lib.itoa (v.mi:Int))).size=(Lib.itoa (v.mi:Int)).length:=rfl
 have sC:(mkS (Lib.itoa (v.pa:Int))).size=(Lib.itoa (v.pa:Int)).length:=rfl
 have sJ:(mkS (Lib.join v.pre [46])).size=(Lib.join v.pre [46]).length:=rfl
 have szP:(⟨#[46]⟩:ByteArray).size=1:=rfl
 have szM:(⟨#[45]⟩:ByteArray).size=1:=rfl
 have lA:=itoa_len (v.ma:Int) ⟨by omega,by omega⟩
 have lB:=itoa_len (v.mi:Int) ⟨by omega,by omega⟩
 have lC:=itoa_len (v.pa:Int) ⟨by omega,by omega⟩
 have lJ:=join_small v.pre hv.pre
 have w1:(⟨#[46]⟩:ByteArray)=mkS [46]:=rfl
 have w2:(⟨#[45]⟩:ByteArray)=mkS [45]:=rfl
 refine Vc.CallH.body Tryz.func124 Tryz.call124 rfl (by decide+kernel) rfl ?_
 by_cases hp:v.pre=[]
 ·have hp0:v.pre.length=0:=by rw[hp];rfl
  ((conv=>whnf);repeat(any_goals((first|(rw[e1];refine(itoa_any (hg.ext (by exact Vc.xt)) _ (by omega) (by omega)).mono ?_;rintro _ Ha ⟨rfl,xa⟩;have za:=xa.size)|(rw[e2];refine(itoa_any (hg.ext (by exact Vc.xt)) _ (by omega) (by omega)).mono ?_;rintro _ Hb ⟨rfl,xb⟩;have zb:=xb.size)|(rw[e3];refine(itoa_any (hg.ext (by exact Vc.xt)) _ (by omega) (by omega)).mono ?_;rintro _ Hc ⟨rfl,xc⟩;have zc:=xc.size)|(refine NeedH.mk ⟨by(simp only[ByteArray.size_append,sA,sB,sC,sJ,szP,szM];omega),?_⟩)|(refine(join_any (sep:=[46]) (hr.ext (by exact Vc.xt)) rfl hl (by omega) (by omega)).mono ?_;rintro _ Hd ⟨rfl,xd⟩;have zd:=xd.size)|((with_reducible refine Vc.DrawH.held [0,1,2,5,6,7,11,12,13,3,4,8,9,10,14,15,16] [(3,[6,12]),(8,[12])] mixed (by decide+kernel) ?_))|refine Vc.stp ?_)<;>(intros;(conv=>whnf)))))
  all_goals exact⟨by show Value.string _=Value.string _;rw[w1];simp only[mkS_app];unfold verT;rw[if_pos hp,List.append_nil],by exact Vc.xt⟩
 ·have hp0:0<v.pre.length:=List.length_pos_iff.2 hp
  ((conv=>whnf);repeat(any_goals((first|(rw[e1];refine(itoa_any (hg.ext (by exact Vc.xt)) _ (by omega) (by omega)).mono ?_;rintro _ Ha ⟨rfl,xa⟩;have za:=xa.size)|(rw[e2];refine(itoa_any (hg.ext (by exact Vc.xt)) _ (by omega) (by omega)).mono ?_;rintro _ Hb ⟨rfl,xb⟩;have zb:=xb.size)|(rw[e3];refine(itoa_any (hg.ext (by exact Vc.xt)) _ (by omega) (by omega)).mono ?_;rintro _ Hc ⟨rfl,xc⟩;have zc:=xc.size)|(refine NeedH.mk ⟨by(simp only[ByteArray.size_append,sA,sB,sC,sJ,szP,szM];omega),?_⟩)|(refine(join_any (sep:=[46]) (hr.ext (by exact Vc.xt)) rfl hl (by omega) (by omega)).mono ?_;rintro _ Hd ⟨rfl,xd⟩;have zd:=xd.size)|((with_reducible refine Vc.DrawH.held [0,1,2,5,6,7,11,12,13,3,4,8,9,10,14,15,16] [(3,[6,12]),(8,[12])] mixed (by decide+kernel) ?_))|refine Vc.stp ?_)<;>(intros;(conv=>whnf)))))
  all_goals exact⟨by show Value.string _=Value.string _;rw[w1,w2];simp only[mkS_app];unfold verT;rw[if_neg hp],by exact Vc.xt⟩
end Go.Proofs.YtjdieklgoepdjaaGreatDoor
namespace Go.Proofs.YtjdieklgoepdjaaGreatDoor
open Go Go.Vc Go.Scr Go.Slv
def rowN (H0 H:Heap) (r:RowP) (c:List Value):Prop:=∃ pa pc na nc,c=[.string (mkS r.name),.int .i64 r.v.ma,.int .i64 r.v.mi,.int .i64 r.v.pa,.slice pa r.v.pre.length pc]++strV r.sum++[.int .i64 r.size,.slice na r.needs.length nc]∧r.sum.length=32∧r.v.pre.length≤pc∧RowT 9 H pa (strs r.v.pre)∧r.needs.length≤nc∧RowL (constE needE H0) 45 H na r.needs
theorem rowN_keep {H0 H H':Heap} {r:RowP} {c:List Value} {F:Nat→Prop} (h:rowN H0 H r c) (k:Only F H H') (h1: ∀ b cc u,F b→Blk H b cc u→u≠9∧u≠45):rowN H0 H' r c:=by
 obtain⟨pa,pc,na,nc,e,h32,hl,hp,hn,hr⟩:=h
 exact⟨pa,pc,na,nc,e,h32,hl,hp.keep k fun b cc u f hb=>(h1 b cc u f hb).1,hn,hr.keep (const_ok need_ok H0) k fun b cc u f hb hu=>hu.elim (fun e=>(h1 b cc u f hb).2 e) id⟩
theorem rowN_E {H0 H:Heap} {r:RowP} {c:List Value} (h:rowN H0 H r c) (k:Ext H0 H):rowE H r c:=by
 obtain⟨pa,pc,na,nc,e,h32,hl,hp,hn,hr⟩:=h
 obtain⟨vs,h1,h2⟩:=hr
 exact⟨pa,pc,na,nc,e,h32,hl,hp.row,hn,RowE.unconst need_ok k ⟨vs,h1.row,h2⟩⟩
structure FndN (H0 H:Heap) (R:List RowP) (o:Option Nat) (x:Value):Prop where
 out:match o with
  |some i=>∃ r c,R[i]? =some r∧x= .tuple #[.agg c.toArray,.bool true]∧rowN H0 H r c
  |none=>x= .tuple #[.agg rowZ,.bool false]
def RowN (H0 H:Heap) (R:List RowP) (p:PinP) (x:Value):Option Nat→Prop
 |some i=>∃ r c,R[i]? =some r∧x= .tuple #[.agg c.toArray,.bool (decide (r.sum=p.sum))]∧rowN H0 H r c
 |none=>x= .tuple #[.agg rowZ,.bool false]
set_option maxHeartbeats 4000000 in
theorem findN_any (R:List RowP) (hRB:RowsB R) (k:Bs) (v:VerP) (hv:VerB v) (a:Option Addr) (n cap:Nat) (y:Value) (H0 H:Heap) (k0:Ext H0 H) (hr:RowE rowE H0 a R) (hn:R.length=n) (hnl:n≤1000000) (hy:VerO H v y):CallH Tryz.prog 107 [.slice a n cap,.string (mkS k),y] H fun x H'=>FndN H0 H' R (idxR R k v) x∧Ext H H':=by
 have hat:=fun H' (k':Ext H H') y' hy'=>at_any R k v hv (rows_ver hRB) a n cap y' H0 H' (k0.trans k') hr hn hnl hy'
 obtain⟨ya,yc,ey,hyl,hyr⟩:=hy.out
 subst ey
 have hyV:VerO H v (verC v ya yc):=⟨ya,yc,rfl,hyl,hyr⟩
 obtain⟨I,hI⟩: ∃ I,idxR R k v=I:=⟨_,rfl⟩
 rw[hI]at hat ⊢
 refine Vc.CallH.body Tryz.func107 Tryz.call107 rfl (by decide+kernel) rfl ?_
 unfold verC
 ((conv=>whnf);repeat(any_goals((first|(refine SemH.load_verB (v:=v) (by assumption) ?_)|((with_reducible refine Vc.DrawH.held [0,1,2,4,5,3,7,8,6,9,10,11] [(3,[5])] mixed (by decide+kernel) ?_))|refine Vc.stp ?_)<;>(intros;(conv=>whnf)))))
 rename_i H1 z1 g1 x1 H2 z2 g2 x2
 cases I with
 |none=>
  have hat: ∀ H',Ext H H'→ ∀ y',VerO H' v y'→CallH Tryz.prog 142 [.slice a n cap,.string (mkS k),y'] H' fun x H''=>x= .int .i64 (-1)∧Ext H' H'':=hat
  ((conv=>whnf);repeat(any_goals((first|(refine(hat _ (by exact Vc.xt) _ (hyV.ext (by exact Vc.xt))).mono ?_;rintro _ H3 ⟨rfl,hx3⟩;have hz3:=hx3.size)|(refine PureH.build0 rowZ (by kernel_rfl) ?_)|((with_reducible refine Vc.DrawH.held [0,1,2,4,5,3,7,8,6,9,10,11] [(3,[5])] mixed (by decide+kernel) ?_))|refine Vc.stp ?_)<;>(intros;(conv=>whnf)))))
  rename_i H5 z5 b5 k5
  exact⟨⟨rfl⟩,(show Ext H H3 by exact Vc.xt).but k5 (by omega)⟩
 |some i=>
  have hat: ∀ H',Ext H H'→ ∀ y',VerO H' v y'→CallH Tryz.prog 142 [.slice a n cap,.string (mkS k),y'] H' fun x H''=>x= .int .i64 (i:Int)∧Ext H' H'':=hat
  obtain⟨r,hri,hrk,hrv⟩:=idx_some hI
  have hrm:=List.mem_of_getElem? hri
  have hps:=(hRB.small r hrm).len
  have hns:=hRB.needs r hrm
  ((conv=>whnf);repeat(any_goals((first|(refine(hat _ (by exact Vc.xt) _ (hyV.ext (by exact Vc.xt))).mono ?_;rintro _ H3 ⟨rfl,hx3⟩;have hz3:=hx3.size)|(refine IdxA.el row_ok (by decide) hr hn i r rfl hri ?_;intro b o c hcR hcl;obtain⟨pa,pc,na,nc,ec,h32,hpl,hpr,hnl2,hnr⟩:=(id hcR))|((with_reducible apply SemH.load_irow);(focus((exact row_ok.len hcR)));(focus((exact hcl)));(focus((exact k0.trans (by exact Vc.xt))));(focus((conv=>whnf))))|((fail_if_success (have:=b5));rename_i Hq zq bq xq;refine DoH.store_list bq rfl (by rw[row_ok.len hcR];rfl) (by rw[row_ok.len hcR];rfl) (row_ok.plain hcR) ?_;intro H5 z5 b5 k5;have hx35:Ext H3 H5:=(show Ext H3 Hq by exact Vc.xt).but k5 (by omega);have hx05:Ext H H5:=(show Ext H H3 by exact Vc.xt).trans hx35;have hp0:hcell H5 ⟨H3.size,0+1+3,none⟩=some (Value.slice pa r.v.pre.length pc):=blk_list b5 4 0 _ (by rw[ec];rfl);have hn0:hcell H5 ⟨H3.size,0+38,none⟩=some (Value.slice na r.needs.length nc):=blk_list b5 0 38 _ (by rw[Nat.zero_add];exact(row_last ec (by rw[strV_length];exact h32)).2))|(refine(cloneS_any str_ok r.v.pre pa _ pc _ (hpr.ext (k0.trans (hx05.trans (by exact Vc.xt)))).strE rfl (by omega)).mono ?_;rintro _ H6 ⟨⟨pa',pc',rfl,hop⟩,hx6⟩;have hz6:=hx6.size)|(refine(cloneN_any (const_ok need_ok H0) r.needs na _ nc _ (hnr.const.ext (const_ok need_ok H0).ok (k0.trans (hx05.trans (by exact Vc.xt)))) rfl (by omega)).mono ?_;rintro _ H7 ⟨⟨na',nc',rfl,hon⟩,hx7⟩;have hz7:=hx7.size)|((fail_if_success (have:=b8));refine DoH.store1 (o:=4) (b5.ext (by exact Vc.xt)) rfl rfl rfl (by rw[List.size_toArray,row_ok.len hcR];decide) ?_;intro H8 z8 b8 k8)|((fail_if_success (have:=b9));refine DoH.store1 (o:=38) b8 rfl rfl rfl (by rw[Array.size_setIfInBounds,List.size_toArray,row_ok.len hcR];decide) ?_;intro H9 z9 b9 k9;obtain⟨c2,hc2⟩: ∃ c2,c2=([.string (mkS r.name),.int .i64 r.v.ma,.int .i64 r.v.mi,.int .i64 r.v.pa,.slice pa' r.v.pre.length pc']++strV r.sum++[.int .i64 r.size,.slice na' r.needs.length nc']:List Value):=⟨_,rfl⟩;have b9':Blk H9 H3.size c2.toArray 54:=(by rw[ec,row_set _ _ _ _ _ _ _ _ _ _ (by rw[strV_length];exact h32)]at b9;rw[hc2];exact b9);have hl2:c2.length=39:=(by rw[hc2];simp[strV,h32]))|((fail_if_success (have:=b10));refine SemH.load_irow hl2 (fun k u hu=>blk_list b9' 0 k u (by rw[Nat.zero_add];exact hu)) (Ext.refl _) ?_)|((fail_if_success (have:=b10));have bR9:=((g2.ext (show Ext H2 H3 by exact Vc.xt)).ext hx35).ext (hx6.trans hx7);have bR9:=(bR9.but k8 (by omega)).but k9 (by omega);refine DoH.store_list (c:=c2) bR9 rfl (by rw[hl2];rfl) (by rw[hl2];rfl) (by rw[hc2];exact row_plainL _ _ _ _ _ _ _ _) ?_;intro H10 z10 b10 k10)|(refine SemH.load_irow hl2 (fun k u hu=>blk_list b10 0 k u (by rw[Nat.zero_add];exact hu)) (Ext.refl _) ?_)|((with_reducible refine Vc.DrawH.held [0,1,2,4,5,3,7,8,6,9,10,11] [(3,[5])] mixed (by decide+kernel) ?_))|refine Vc.stp ?_)<;>(intros;(conv=>whnf)))))
  have hx7:Ext H H7:=hx05.trans (hx6.trans hx7)
  have hx10:Ext H H10:=((hx7.but k8 (by omega)).but k9 (by omega)).but k10 (by omega)
  refine⟨⟨r,c2,hri,rfl,pa',pc',na',nc',hc2,h32,hop.cap_le,?_,hon.cap_le,?_⟩,hx10⟩
  ·have hk: ∀ p,pa'=some p→H5.size≤p.block:=fun p hp=>(hop.block p hp).1
   obtain⟨vs,h1,h2⟩:=((((hop.ext str_ok.ok (by assumption)).keep str_ok k8 (fun _ _ _ _ _ h=>h) fun p hp e=>by have:=hk p hp;omega).keep str_ok k9 (fun _ _ _ _ _ h=>h) fun p hp e=>by have:=hk p hp;omega).keep str_ok k10 (fun _ _ _ _ _ h=>h) fun p hp e=>by have:=hk p hp;omega).out
   rw[h2.strs_eq]at h1
   exact h1.rowT
  ·have hk: ∀ p,na'=some p→H6.size≤p.block:=fun p hp=>(hon.block p hp).1
   obtain⟨vs,h1,h2⟩:=(((hon.keep (const_ok need_ok H0) k8 (fun _ _ _ _ _ h=>h) fun p hp e=>by have:=hk p hp;omega).keep (const_ok need_ok H0) k9 (fun _ _ _ _ _ h=>h) fun p hp e=>by have:=hk p hp;omega).keep (const_ok need_ok H0) k10 (fun _ _ _ _ _ h=>h) fun p hp e=>by have:=hk p hp;omega).out
   exact⟨vs,h1.rowT,h2⟩
set_option maxHeartbeats 4000000 in
theorem srow_any (R:List RowP) (p:PinP) (hp:VerS p.v) (hRB:RowsB R) (a:Option Addr) (n cap:Nat) (c:List Value) (H0 H:Heap) (hg:Glb H) (k0:Ext H0 H) (hr:RowE rowE H0 a R) (hn:R.length=n) (hnl:n≤1000000) (hc:pinE H0 p c):
  CallH Tryz.prog 83 [.slice a n cap,.agg c.toArray] H fun x H'=>RowN H0 H' R p x (idxR R p.name p.v)∧Ext H H':=by
 obtain⟨pa,pc,ec,h32,hpl,hpr⟩:=(id hc)
 obtain⟨I,hI⟩: ∃ I,idxR R p.name p.v=I:=⟨_,rfl⟩
 have hfind:=fun H k y hy=>findN_any R hRB p.name p.v (verS_b hp) a n cap y H0 H k hr hn hnl hy
 rw[hI]at hfind ⊢
 refine Vc.CallH.body Tryz.func83 Tryz.call83 rfl (by decide+kernel) rfl ?_
 ((conv=>whnf);repeat(any_goals((first|refine Vc.stq ?_|refine Vc.spl ?_ ?_)<;>(intros;(conv=>whnf)))))
 rename_i H1 z1 b1 x1 H2 z2 b2 x2
 have b1:Blk H1 H.size c.toArray 52:=b1
 have hp0:hcell H1 ⟨H.size,0+0,none⟩=some (Value.string (mkS p.name)):=blk_list b1 0 0 _ (by rw[ec];rfl)
 have hpv:=fun k u hu=>blk_list b1 1 k u (pin_ver1 ec k u hu)
 have hps:=fun k u hu=>blk_list b1 5 k u (pin_sum ec k u hu)
 cases I with
 |none=>
  ((conv=>whnf);repeat(any_goals((first|((with_reducible apply SemH.load_ver);(focus((exact hpv)));(focus((exact x2)));(focus((conv=>whnf))))|(refine(hfind _ (k0.trans (x1.trans x2)) _ (verO_of hpl (hpr.ext (k0.trans (x1.trans x2))))).mono ?_;rintro _ H3 ⟨⟨rfl⟩,hx3⟩;have hz3:=hx3.size)|(rename_i Hl zl bl xl;refine DoH.store_all bl rfl (by kernel_rfl) (by kernel_rfl) (by decide) ?_;intro H4 z4 b4 k4)|(refine DoH.store_all (((b2.ext hx3).ext xl).but k4 (by omega)) rfl (by kernel_rfl) (by kernel_rfl) (by decide) ?_;intro H5 z5 b5 k5)|((with_reducible refine Vc.DrawH.held [0,1,2,3,4,6,7,5,8,9,10,11,12,13,14,15,16,17,18,19] [(5,[0,7]),(8,[0]),(18,[13,15])] mixed (by decide+kernel) ?_))|refine Vc.stp ?_)<;>(intros;(conv=>whnf)))))
  exact⟨rfl,x1.trans ((x2.trans (hx3.trans (xl.but k4 (by omega)))).but k5 (Nat.le_refl _))⟩
 |some i=>
  obtain⟨r0,hr0,hrn,hrv⟩:=idx_some hI
  have hrs0:VerS r0.v:=by rw[hrv];exact hp
  have hcd: ∀ s t:Bs,s=t→((mkS s).toList==(mkS t).toList)=true:=fun s t e=>by rw[str_mk,decide_eq_true e]
  ((conv=>whnf);repeat(any_goals((first|((with_reducible apply Vc.StillsH.load);(focus(rfl));(focus(rfl));(focus(rfl));(focus(rfl));(focus(rfl));(focus(rfl));(focus((first|exact SemH.load_key2 r32 hrs5 (Ext.refl _) rfl|exact SemH.load_key2 h32 hps5 (Ext.refl _) rfl)));(focus((conv=>whnf))))|((with_reducible apply SemH.load_irow);(focus((exact row_ok.len hcr)));(focus((exact hrw5)));(focus((exact Ext.refl _)));(focus((conv=>whnf))))|((with_reducible apply SemH.load_ver);(focus((exact hpv)));(focus((exact x2.trans (by exact Vc.xt))));(focus((conv=>whnf))))|(refine(hfind _ (k0.trans (x1.trans x2)) _ (verO_of hpl (hpr.ext (k0.trans (x1.trans x2))))).mono ?_;rintro _ H3 ⟨⟨r,cr,hri,rfl,hcn⟩,hx3⟩;have hz3:=hx3.size;rw[hr0]at hri;have e0:=Option.some.inj hri;subst e0;have hcr:=rowN_E hcn (k0.trans (x1.trans (x2.trans hx3)));obtain⟨ra,rc,na,nc,er,r32,hrl,hrr,hnl2,hnr⟩:=(id hcr))|((fail_if_success (have:=b4));rename_i Hl zl bl xl;refine DoH.store_list bl rfl (by rw[row_ok.len hcr];rfl) (by rw[row_ok.len hcr];rfl) (row_ok.plain hcr) ?_;intro H4 z4 b4 k4;have hx34:Ext H3 H4:=xl.but k4 (Nat.le_refl _);have hrs:=fun k u hu=>blk_list b4 5 k u (row_sum er k u hu);have hrvv:=(fun k u hu=>blk_list b4 1 k u (by rw[Nat.add_comm 1 k];exact row_ver er k u hu));have hrw:=fun k u hu=>blk_list b4 0 k u (by rw[Nat.zero_add];exact hu))|((with_reducible apply SemH.load_irow);(focus((exact row_ok.len hcr)));(focus((exact hrw)));(focus((exact Vc.xt)));(focus((conv=>whnf))))|((with_reducible apply SemH.load_ver);(focus((exact hrvv)));(focus((exact Vc.xt)));(focus((conv=>whnf))))|((fail_if_success (have:=xvt));refine(vtext_any r0.v hrs0 ra rc (hg.ext (x1.trans (x2.trans (hx3.trans (hx34.trans (by exact Vc.xt)))))) hrl (hrr.ext (hx34.trans (by exact Vc.xt)))).mono ?_;rintro _ Ht ⟨rfl,xvt⟩;have zt:=xvt.size)|((with_reducible apply Vc.StillsH.load);(focus(rfl));(focus(rfl));(focus(rfl));(focus(rfl));(focus(rfl));(focus(rfl));(focus((first|exact SemH.load_irow (row_ok.len hcr) hrw (by exact Vc.xt) rfl|exact SemH.load_ver hpv (x2.trans (hx3.trans (hx34.trans (by exact Vc.xt)))) rfl|exact SemH.load_ver hrvv (by exact Vc.xt) rfl|exact SemH.load_key2 r32 hrs (by exact Vc.xt) rfl|exact SemH.load_key2 h32 hps (x2.trans (hx3.trans (hx34.trans (by exact Vc.xt)))) rfl)));(focus((conv=>whnf))))|((fail_if_success (have:=xu));refine(vtext_any p.v hp pa pc (hg.ext (x1.trans (x2.trans (hx3.trans (hx34.trans (by exact Vc.xt)))))) hpl (hpr.ext (k0.trans (x1.trans (x2.trans (hx3.trans (hx34.trans (by exact Vc.xt)))))))).mono ?_;rintro _ Hu ⟨rfl,xu⟩;have zu:=xu.size)|((with_reducible apply SemH.load_key2);(focus((exact r32)));(focus((exact hrs)));(focus((exact Vc.xt)));(focus((conv=>whnf))))|((with_reducible apply SemH.load_key2);(focus((exact h32)));(focus((exact hps)));(focus((exact x2.trans (hx3.trans (hx34.trans (by exact Vc.xt))))));(focus((conv=>whnf))))|((with_reducible apply PureH.eql_bytes);(focus(rfl));(focus(rfl));(focus(rfl));(focus(rfl));(focus(kernel_rfl));(focus((exact r32)));(focus((exact h32)));(focus((conv=>whnf))))|((fail_if_success (have:=b5));refine DoH.store_list (b2.ext (hx3.trans (hx34.trans (show Ext H4 Hu by exact Vc.xt)))) rfl (by rw[row_ok.len hcr];rfl) (by rw[row_ok.len hcr];rfl) (row_ok.plain hcr) ?_;intro H5 z5 b5 k5;have x4u:Ext H4 Hu:=(by exact Vc.xt);have b45:=(b4.ext x4u).but k5 (by omega);have hrs5:=fun k u hu=>blk_list b45 5 k u (row_sum er k u hu);have b15:=(b1.ext (x2.trans (hx3.trans (hx34.trans x4u)))).but k5 (by have:=b1.lt;omega);have hps5:=fun k u hu=>blk_list b15 5 k u (pin_sum ec k u hu);have hrw5:=fun k u hu=>blk_list b5 0 k u (by rw[Nat.zero_add];exact hu))|(rw[hrv];refine CondH.pos (hcd _ _ rfl) ?_)|(rw[hrv,hcd _ _ rfl])|((with_reducible refine Vc.DrawH.held [0,1,2,3,4,6,7,5,8,9,10,11,12,13,14,15,16,17,18,19] [(5,[0,7]),(8,[0]),(18,[13,15])] mixed (by decide+kernel) ?_))|refine Vc.stp ?_)<;>(intros;(conv=>whnf)))))
  all_goals
   have hcn5:rowN H0 H5 r0 cr:=rowN_keep (rowN_keep hcn (hx34.trans x4u) fun _ _ _ h=>h.elim) k5 fun b cc u hb hk=>by
    subst hb
    rw[hk.typ (b2.ext (hx3.trans (hx34.trans x4u)))]
    decide
   exact⟨⟨r0,cr,hr0,by rw[show decide (r0.sum=p.sum)=(r0.sum==p.sum)by rw[Bool.eq_iff_iff,decide_eq_true_eq,beq_iff_eq]];rfl,hcn5⟩,x1.trans ((x2.trans (hx3.trans (hx34.trans x4u))).but k5 (by omega))⟩
end Go.Proofs.YtjdieklgoepdjaaGreatDoor
namespace Go.Proofs.YtjdieklgoepdjaaGreatDoor
open Go Go.Vc Go.Scr Go.Slv
def PinO (P:List PinP) (H0 H:Heap) (b:Nat):Prop:=∃ l,MapO H b l∧ ∀ k,(∀ p,findP P k=some p→ ∃ c,mget l k=some (.agg c.toArray)∧pinE H0 p c)∧(findP P k=none→mget l k=none)
set_option maxHeartbeats 2000000 in
theorem unmet_any (P:List PinP) (hPv: ∀ p∈P,VerB p.v) (nd:NeedP) (hs:SpnB nd.span) (c:List Value) (pv mb:Nat) (H0 H:Heap) (k0:Ext H0 H) (hb:Blk H pv #[.map (some mb)] 128) (hm:PinO P H0 H mb) (hc:needE H0 nd c):
  CallH Tryz.prog 85 [.agg c.toArray,.pointer (some ⟨pv,0,none⟩)] H fun v H'=>v= .bool (!metB P nd)∧Ext H H':=by
 obtain⟨sa,sc,ec,hsl,hsr⟩:=(id hc)
 subst ec
 obtain⟨l,hl,hk⟩:=hm
 refine Vc.CallH.body Tryz.func85 Tryz.call85 rfl (by decide+kernel) rfl ?_
 cases hf:findP P nd.name with
 |none=>
  have e:=(hk nd.name).2 hf
  have hmet:metB P nd=false:=by unfold metB;rw[hf]
  rw[hmet]
  ((conv=>whnf);repeat(any_goals((first|((with_reducible apply SemH.lookNone);(focus((exact hl.ext (by exact Vc.xt))));(focus((exact e)));(focus(rfl));(focus(rfl));(focus(rfl));(focus(rfl));(focus((conv=>whnf))))|refine Vc.stp ?_)<;>(intros;(conv=>whnf)))))
  exact⟨rfl,by exact Vc.xt⟩
 |some p=>
  obtain⟨cp,e,hcp⟩:=(hk nd.name).1 p hf
  obtain⟨pa,pc,ep,p32,ppl,ppr⟩:=(id hcp)
  have hvb:=hPv p (List.mem_of_find?_eq_some hf)
  have hmet:metB P nd=hasP nd.span p.v:=by unfold metB;rw[hf]
  rw[hmet]
  obtain⟨hh,hhe⟩: ∃ hh,hasP nd.span p.v=hh:=⟨_,rfl⟩
  rw[hhe]
  ((conv=>whnf);repeat(any_goals((first|refine Vc.stp ?_)<;>(intros;(conv=>whnf)))))
  rename_i H1 z1 b1 x1
  have hs1: ∀ (k:Nat) (u:Value),([.bool nd.span.any,.slice sa nd.span.or_.length sc]:List Value)[k]? =some u→hcell H1 ⟨H.size,0+1+k,none⟩=some u:=fun k u hu=>by
   rw[b1.cell]
   match k,hu with
   |0,hu=>exact hu
   |1,hu=>exact hu
  ((conv=>whnf);repeat(any_goals((first|((with_reducible apply SemH.lookSome);(focus((exact hl.ext (by exact Vc.xt))));(focus((exact e)));(focus(rfl));(focus(rfl));(focus(rfl));(focus(rfl));(focus((conv=>whnf))))|((fail_if_success (have:=b3));rename_i H2 z2 b2 x2;refine DoH.store_list b2 rfl (by rw[pin_ok.len hcp];rfl) (by rw[pin_ok.len hcp];rfl) (pin_ok.plain hcp) ?_;intro H3 z3 b3 k3;have hx13:Ext H1 H3:=x2.but k3 (Nat.le_refl _);have hpv3:=(fun k u hu=>blk_list b3 1 k u (pin_ver1 ep k u hu)))|((with_reducible apply SemH.load_el);(focus(rfl));(focus(rfl));(focus((show 2=List.length [Value.bool nd.span.any,Value.slice sa nd.span.or_.length sc];rfl)));(focus((exact hs1)));(focus((exact Vc.xt)));(focus((conv=>whnf))))|((with_reducible apply SemH.load_ver);(focus((exact hpv3)));(focus((exact Vc.xt)));(focus((conv=>whnf))))|(refine(has_any nd.span p.v hs hvb sa _ sc _ H0 _ (k0.trans (x1.trans (hx13.trans (by exact Vc.xt)))) hsr rfl (verO_of ppl (ppr.ext (k0.trans (x1.trans (hx13.trans (by exact Vc.xt))))))).mono ?_;rintro _ H4 ⟨rfl,hx4⟩;have hz4:=hx4.size;rw[hhe])|refine Vc.stp ?_)<;>(intros;(conv=>whnf)))))
  exact⟨rfl,x1.trans (hx13.trans (by exact Vc.xt))⟩
theorem PinO.ext {P:List PinP} {H0 H H':Heap} {b:Nat} (h:PinO P H0 H b) (k:Ext H H'):PinO P H0 H' b:=let ⟨l,h1,h2⟩:=h;⟨l,h1.ext k,h2⟩
theorem metall_any (P:List PinP) (hPv: ∀ p∈P,VerB p.v) (l:List NeedP) (hs: ∀ nd∈l,SpnB nd.span) (a:Option Addr) (n cap:Nat) (pv mb:Nat) (H0 H:Heap) (k0:Ext H0 H) (hr:RowE needE H0 a l) (hn:l.length=n) (hnl:n≤1000000) (hb:Blk H pv #[.map (some mb)] 128) (hm:PinO P H0 H mb):
  CallH Tryz.prog 84 [.slice a n cap,.pointer (some ⟨pv,0,none⟩)] H fun v H'=>v= .bool (!(l.any fun nd=> !metB P nd))∧Ext H H':=by
 have hco:=coneed_any l (fun nd=> !metB P nd) 85 (.pointer (some ⟨pv,0,none⟩)) a n cap H0 H k0 hr hn hnl fun x c H' hx hc hk=>unmet_any P hPv x (hs x hx) c pv mb H0 H' (k0.trans hk) (hb.ext hk) (hm.ext hk) hc
 obtain⟨bb,hbb⟩: ∃ bb,(l.any fun nd=> !metB P nd)=bb:=⟨_,rfl⟩
 rw[hbb]at hco ⊢
 refine Vc.CallH.body Tryz.func84 Tryz.call84 rfl (by decide+kernel) rfl ?_
 ((conv=>whnf);repeat(any_goals((first|(refine SemH.mkFunc ?_)|(refine hco.mono ?_;rintro _ H1 ⟨rfl,x1⟩)|refine Vc.stp ?_)<;>(intros;(conv=>whnf)))))
 exact⟨rfl,x1⟩
end Go.Proofs.YtjdieklgoepdjaaGreatDoor
namespace Go.Proofs.YtjdieklgoepdjaaGreatDoor
open Go Go.Vc Go.Scr Go.Slv
structure CntO (K:List Txt) (H:Heap) (cb:Nat) (seen:List Txt) (T:Nat):Prop where
 out: ∃ cf:Txt→Option Int,IntO H cb cf∧(∀ k j,cf k=some j→1≤j∧j≤T∧k∈seen)∧(∀ k∈seen,∃ j,cf k=some j)
 nodup:seen.Nodup
 sub: ∀ k∈seen,k∈K
theorem CntO.keep {K:List Txt} {H H':Heap} {cb:Nat} {seen:List Txt} {T:Nat} {F:Nat→Prop} (h:CntO K H cb seen T) (k:Only F H H') (hb: ¬F cb):CntO K H' cb seen T:=by
 obtain⟨cf,h1,h2,h3⟩:=h.out
 exact⟨⟨cf,h1.keep k hb,h2,h3⟩,h.nodup,h.sub⟩
theorem CntO.mono {K:List Txt} {H:Heap} {cb:Nat} {seen:List Txt} {T T':Nat} (h:CntO K H cb seen T) (k:T≤T'):CntO K H cb seen T':=by
 obtain⟨cf,h1,h2,h3⟩:=h.out
 exact⟨⟨cf,h1,fun q j e=>⟨(h2 q j e).1,by have:=(h2 q j e).2.1;omega,(h2 q j e).2.2⟩,h3⟩,h.nodup,h.sub⟩
theorem CntO.old {K:List Txt} {H:Heap} {cb:Nat} {seen:List Txt} {T:Nat} {l:List (Bs×Value)} {cf:Txt→Option Int} (hl: ∀ k,mget l k=intO (cf k)) (h2: ∀ k j,cf k=some j→1≤j∧j≤T∧k∈seen) (h3: ∀ k∈seen,∃ j,cf k=some j) (hn:seen.Nodup) (hs: ∀ k∈seen,k∈K) {k:Txt} {j:Int} (hk:k∈seen) (hj:1≤j∧j≤T+1) (hm:MapO H cb (mput l k (.int .i64 j))):CntO K H cb seen (T+1):=by
 refine⟨⟨_,IntO.put hl hm,fun q i e=> ?_,fun q hq=> ?_⟩,hn,hs⟩
 ·by_cases h:q=k
  ·rw[if_pos h]at e;cases e;subst h;exact⟨hj.1,by omega,hk⟩
  ·rw[if_neg h]at e
   have:=h2 q i e
   exact⟨this.1,by omega,this.2.2⟩
 ·by_cases h:q=k
  ·exact⟨j,by rw[if_pos h]⟩
  ·obtain⟨i,hi⟩:=h3 q hq
   exact⟨i,by rw[if_neg h];exact hi⟩
theorem CntO.new {K:List Txt} {H:Heap} {cb:Nat} {seen:List Txt} {T:Nat} {l:List (Bs×Value)} {cf:Txt→Option Int} (hl: ∀ k,mget l k=intO (cf k)) (h2: ∀ k j,cf k=some j→1≤j∧j≤T∧k∈seen) (h3: ∀ k∈seen,∃ j,cf k=some j) (hn:seen.Nodup) (hs: ∀ k∈seen,k∈K) {k:Txt} (hk:k∉seen) (hkK:k∈K) (hm:MapO H cb (mput l k (.int .i64 1))):CntO K H cb (seen++[k]) (T+1):=by
 refine⟨⟨_,IntO.put hl hm,fun q i e=> ?_,fun q hq=> ?_⟩,?_,fun q hq=> ?_⟩
 ·by_cases h:q=k
  ·rw[if_pos h]at e;cases e;subst h;exact⟨by omega,by omega,by simp⟩
  ·rw[if_neg h]at e
   have:=h2 q i e
   exact⟨this.1,by omega,List.mem_append_left _ this.2.2⟩
 ·by_cases h:q=k
  ·exact⟨1,by rw[if_pos h]⟩
  ·rcases List.mem_append.1 hq with hq|hq
   ·obtain⟨i,hi⟩:=h3 q hq
    exact⟨i,by rw[if_neg h];exact hi⟩
   ·rw[List.mem_singleton]at hq;exact absurd hq h
 ·rw[List.nodup_append]
  refine⟨hn,by simp,fun x hx y hy e=> ?_⟩
  rw[List.mem_singleton]at hy;subst hy;subst e;exact hk hx
 ·rcases List.mem_append.1 hq with hq|hq
  ·exact hs q hq
  ·rw[List.mem_singleton]at hq;subst hq;exact hkK
structure VsO (R:List RowP) (P:List PinP) (H0:Heap) (cb pb v7 v5 v3 v8:Nat) (ra:Option Addr) (rc:Nat) (H:Heap):Prop where
 h0:Ext H0 H
 low:H0.size≤cb
 b7:Blk H v7 #[.map (some cb)] 94
 b5:Blk H v5 #[.map (some pb)] 128
 b3:Blk H v3 #[.slice ra R.length rc] 26
 b8:Blk H v8 #[.func (.func 132) #[] #[.pointer (some ⟨v7,0,none⟩),.pointer (some ⟨v5,0,none⟩),.pointer (some ⟨v3,0,none⟩),.pointer (some ⟨v8,0,none⟩)]] 175
 pins:PinO P H0 H pb
 ne:pb≠cb
theorem VsO.but {R:List RowP} {P:List PinP} {H0:Heap} {cb pb v7 v5 v3 v8:Nat} {ra:Option Addr} {rc:Nat} {H H':Heap} {m:List (Bs×Value)} (h:VsO R P H0 cb pb v7 v5 v3 v8 ra rc H) (hm:MapO H cb m) (k:But cb H H'):VsO R P H0 cb pb v7 v5 v3 v8 ra rc H':=by
 obtain⟨l,h1,h2⟩:=h.pins
 exact⟨h.h0.but k h.low,h.low,h.b7.but k fun e=>hm.ne h.b7 e.symm,h.b5.but k fun e=>hm.ne h.b5 e.symm,h.b3.but k fun e=>hm.ne h.b3 e.symm,h.b8.but k fun e=>hm.ne h.b8 e.symm,⟨l,h1.but k h.ne,h2⟩,h.ne⟩
theorem VsO.ext {R:List RowP} {P:List PinP} {H0:Heap} {cb pb v7 v5 v3 v8:Nat} {ra:Option Addr} {rc:Nat} {H H':Heap} (h:VsO R P H0 cb pb v7 v5 v3 v8 ra rc H) (k:Ext H H'):VsO R P H0 cb pb v7 v5 v3 v8 ra rc H':=
 ⟨h.h0.trans k,h.low,h.b7.ext k,h.b5.ext k,h.b3.ext k,h.b8.ext k,h.pins.ext k,h.ne⟩
end Go.Proofs.YtjdieklgoepdjaaGreatDoor
namespace Go.Proofs.YtjdieklgoepdjaaGreatDoor
open Go Go.Vc Go.Scr Go.Slv
theorem take_snocN {α:Type} {l:List α} {i:Nat} {k:α} (hk:l[i]? =some k):l.take (i+1)=l.take i++[k]:=by rw[List.take_add_one,hk];rfl
set_option maxHeartbeats 4000000 in
theorem visit_any (R:List RowP) (hRB:RowsB R) (hRl:R.length≤200) (N:List NeedP) (hNl:N.length≤1000) (P:List PinP) (hPv: ∀ p∈P,VerS p.v) (H0:Heap) (hg:Glb H0) (cb pb v7 v5 v3 v8:Nat) (ra:Option Addr) (rc:Nat) (hr:RowE rowE H0 ra R):
  ∀ (m:Nat) (seen:List Txt) (T:Nat) (l:List NeedP) (a:Option Addr) (n cap:Nat) (H:Heap),(allU R N).length≤seen.length+m→CntO (allU R N) H cb seen T→T≤1000*seen.length→VsO R P H0 cb pb v7 v5 v3 v8 ra rc H→(∀ H',But cb H H'→RowE (constE needE H0) H' a l)→l.length=n→n≤1000→(∀ nd∈l,nd.name∈allU R N)→
  CallH Tryz.prog 132 [.slice a n cap,.pointer (some ⟨v7,0,none⟩),.pointer (some ⟨v5,0,none⟩),.pointer (some ⟨v3,0,none⟩),.pointer (some ⟨v8,0,none⟩)] H fun v H'=>v= .tuple #[]∧(∃ seen' T',VisI R P seen l seen'∧CntO (allU R N) H' cb seen' T'∧T'+1000*seen.length≤T+n+1000*seen'.length)∧But cb H H':=by
 intro m
 induction m using Nat.strongRecOn with
 |ind m ih=>
 intro seen T l a n cap H hm hC hT hV hl hn hnl hlK
 have hall:=allU_len hRB.needs hRl hNl (N:=N)
 refine Vc.CallH.body Tryz.func132 Tryz.call132 rfl (by decide+kernel) rfl ?_
 ((conv=>whnf);repeat(any_goals((first|refine Vc.stp ?_)<;>(intros;(conv=>whnf)))))
 refine LoopH.intro (fun(i:Nat)=>[(14,.int .i64 i)]) (fun i H'=>i≤n∧But cb H H'∧ ∃ seen' T',VisI R P seen (l.take i) seen'∧CntO (allU R N) H' cb seen' T'∧T'+1000*seen.length≤T+i+1000*seen'.length∧seen.length≤seen'.length) (fun i=>n-i) 0 ⟨rfl,trivial⟩ ⟨Nat.zero_le _,Only.refl _ _,seen,T,(by rw[List.take_zero];exact VisI.nil _ _ _),hC,by omega,Nat.le_refl _⟩ ?_
 rintro i H1 ⟨hi,hk1,seen1,T1,hvis,hC1,hT1,hsl⟩
 obtain⟨cf,⟨lc,hmc,hlc⟩,hc2,hc3⟩:=hC1.out
 have hmc0: ∃ m0,MapO H cb m0:=by
  obtain⟨_,⟨l0,h0,_⟩,_⟩:=hC.out
  exact⟨l0,h0⟩
 obtain⟨m0,hm0⟩:=hmc0
 have hV1:=hV.but hm0 hk1
 by_cases hlt:i<n
 ·obtain⟨nd,hnd⟩: ∃ nd,l[i]? =some nd:=⟨_,List.getElem?_eq_getElem (by omega)⟩
  have hl1:=hl H1 hk1
  have b71:=hV1.b7
  ((conv=>whnf);repeat(any_goals((first|(refine IdxA.el (const_ok need_ok H0).ok (by decide) hl1 hn i nd rfl hnd ?_;intro b o cc hcN hcl;obtain⟨sa,sc,ec,hsl2,hsr⟩:=(id hcN);subst ec)|((with_reducible apply SemH.load_el);(focus(rfl));(focus(rfl));(focus((show 4=_;exact(need_ok.len hcN).symm)));(focus((exact hcl)));(focus((exact Vc.xt)));(focus((conv=>whnf))))|refine Vc.stp ?_)<;>(intros;(conv=>whnf)))))
  rename_i H2 z2 b2 x2 H3 z3 b3 k3
  have hx13:Ext H1 H3:=x2.but k3 (Nat.le_refl _)
  have hV3:=hV1.ext hx13
  have b73:=hV3.b7
  have hmc3:=hmc.ext hx13
  by_cases hsn:nd.name∈seen1
  ·obtain⟨j,hj⟩:=hc3 _ hsn
   have hjb:=hc2 _ _ hj
   have hgk:(mget lc nd.name).getD (.int .i64 0)= .int .i64 j:=by rw[hlc,hj];rfl
   have hsl1:=nodup_len hC1.nodup hC1.sub
   have hgk4:(mget (mput lc nd.name (.int .i64 (j+1))) nd.name).getD (.int .i64 0)= .int .i64 (j+1):=by rw[mget_put,if_pos rfl];rfl
   ((conv=>whnf);repeat(any_goals((first|((with_reducible apply SemH.lookV);(focus((exact hmc3)));(focus(rfl));(focus(rfl));(focus(rfl));(focus(rfl));(focus((exact hgk)));(focus((conv=>whnf))))|((fail_if_success (have:=m4));refine DoH.mapPut hmc3 rfl rfl ?_;intro H4 z4 m4 k4;have hV4:=hV3.but hmc3 k4;have b74:=hV4.b7;have b34:=b3.but k4 (fun e=>hmc3.ne b3 e.symm))|((with_reducible apply SemH.lookV);(focus((exact m4)));(focus(rfl));(focus(rfl));(focus(rfl));(focus(rfl));(focus((exact hgk4)));(focus((conv=>whnf))))|refine Vc.stp ?_)<;>(intros;(conv=>whnf)))))
   have hk14:But cb H H4:=Only.trans (Only.trans hk1 hx13 fun _ _ h=>h.elim) k4 fun _ _ h=>h
   have hts:l.take (i+1)=l.take i++[nd]:=take_snocN hnd
   have hC4:CntO (allU R N) H4 cb seen1 (T1+1):=CntO.old hlc hc2 hc3 hC1.nodup hC1.sub hsn ⟨by omega,by omega⟩ m4
   have hv4:VisI R P seen (l.take (i+1)) seen1:=by rw[hts];exact hvis.old hsn
   exact⟨i+1,⟨rfl,trivial⟩,⟨hlt,hk14,seen1,T1+1,hv4,hC4,by omega,hsl⟩,by omega⟩
  ·have hcn:cf nd.name=none:=by
    cases e:cf nd.name with
    |none=>rfl
    |some j=>exact absurd (hc2 _ _ e).2.2 hsn
   have hgk:(mget lc nd.name).getD (.int .i64 0)= .int .i64 0:=by rw[hlc,hcn];rfl
   have hgk4:(mget (mput lc nd.name (.int .i64 (0+1))) nd.name).getD (.int .i64 0)= .int .i64 (0+1):=by rw[mget_put,if_pos rfl];rfl
   have hts:l.take (i+1)=l.take i++[nd]:=take_snocN hnd
   have hsl1:=nodup_len hC1.nodup hC1.sub
   obtain⟨lp,hlp,hpk⟩:=hV3.pins
   cases hf:findP P nd.name with
   |none=>
    have hpn:=(hpk nd.name).2 hf
    ((conv=>whnf);repeat(any_goals((first|((with_reducible apply SemH.lookV);(focus((exact hmc3)));(focus(rfl));(focus(rfl));(focus(rfl));(focus(rfl));(focus((exact hgk)));(focus((conv=>whnf))))|((fail_if_success (have:=m4));refine DoH.mapPut hmc3 rfl rfl ?_;intro H4 z4 m4 k4;have hV4:=hV3.but hmc3 k4;have b74:=hV4.b7;have b54:=hV4.b5;have hlp4:=hlp.but k4 hV3.ne;have b34:=b3.but k4 (fun e=>hmc3.ne b3 e.symm))|((with_reducible apply SemH.lookV);(focus((exact m4)));(focus(rfl));(focus(rfl));(focus(rfl));(focus(rfl));(focus((exact hgk4)));(focus((conv=>whnf))))|((with_reducible apply SemH.lookNone);(focus((exact hlp4)));(focus((exact hpn)));(focus(rfl));(focus(rfl));(focus(rfl));(focus(rfl));(focus((conv=>whnf))))|refine Vc.stp ?_)<;>(intros;(conv=>whnf)))))
    rename_i H5 z5 b5 x5 H6 z6 b6 k6
    have hx46:Ext H4 H6:=x5.but k6 (Nat.le_refl _)
    have hC4:=(CntO.new hlc hc2 hc3 hC1.nodup hC1.sub hsn (hlK nd (List.mem_of_getElem? hnd)) m4).keep hx46 id
    have hk16:But cb H H6:=Only.trans (Only.trans (Only.trans hk1 hx13 fun _ _ h=>h.elim) k4 fun _ _ h=>h) hx46 fun _ _ h=>h.elim
    have hsp:succP R P nd.name=[]:=by
     have hf':P.find? (fun p=>p.name==nd.name)=none:=hf
     unfold succP;rw[hf']
    have hv6:VisI R P seen (l.take (i+1)) (seen1++[nd.name]):=by
     rw[hts]
     refine hvis.new ?_
     rw[hsp];exact VisI.nil _ _ _
    have hsl6:(seen1++[nd.name]).length=seen1.length+1:=by simp
    exact⟨i+1,⟨rfl,trivial⟩,⟨hlt,hk16,_,T1+1,hv6,hC4,by omega,by omega⟩,by omega⟩
   |some p=>
    obtain⟨cp,hpn,hcp⟩:=(hpk nd.name).1 p hf
    obtain⟨pa,pc,ep,p32,ppl,ppr⟩:=(id hcp)
    have hpm:p∈P:=List.mem_of_find?_eq_some hf
    ((conv=>whnf);repeat(any_goals((first|((with_reducible apply SemH.lookV);(focus((exact hmc3)));(focus(rfl));(focus(rfl));(focus(rfl));(focus(rfl));(focus((exact hgk)));(focus((conv=>whnf))))|((fail_if_success (have:=m4));refine DoH.mapPut hmc3 rfl rfl ?_;intro H4 z4 m4 k4;have hV4:=hV3.but hmc3 k4;have b74:=hV4.b7;have b54:=hV4.b5;have b43:=hV4.b3;have b84:=hV4.b8;have hlp4:=hlp.but k4 hV3.ne;have b34:=b3.but k4 (fun e=>hmc3.ne b3 e.symm))|((with_reducible apply SemH.lookV);(focus((exact m4)));(focus(rfl));(focus(rfl));(focus(rfl));(focus(rfl));(focus((exact hgk4)));(focus((conv=>whnf))))|((with_reducible apply SemH.lookSome);(focus((exact hlp4)));(focus((exact hpn)));(focus(rfl));(focus(rfl));(focus(rfl));(focus(rfl));(focus((conv=>whnf))))|((fail_if_success (have:=b6));rename_i H5 z5 b5 x5;refine DoH.store_list b5 rfl (by rw[pin_ok.len hcp];rfl) (by rw[pin_ok.len hcp];rfl) (pin_ok.plain hcp) ?_;intro H6 z6 b6 k6;have hx46:Ext H4 H6:=x5.but k6 (Nat.le_refl _);have hV6:=hV4.ext hx46;have b36:=hV6.b3;have hpw:=fun k u hu=>blk_list b6 0 k u (by rw[Nat.zero_add];exact hu))|((with_reducible apply SemH.load_el);(focus(rfl));(focus(rfl));(focus((show 37=_;exact(pin_ok.len hcp).symm)));(focus((exact hpw)));(focus((exact Vc.xt)));(focus((conv=>whnf))))|refine Vc.stp ?_)<;>(intros;(conv=>whnf)))))
    have hHg:Glb H6:=hg.ext hV6.h0
    obtain⟨I,hI⟩: ∃ I,idxR R p.name p.v=I:=⟨_,rfl⟩
    have hsw:=srow_any R p (hPv p hpm) hRB ra R.length rc cp H0 H6 hHg hV6.h0 hr rfl (by omega) hcp
    rw[hI]at hsw
    refine hsw.mono ?_
    rintro _ H7 ⟨hrow,hx7⟩
    cases I with
    |none=>
     have hrow':_=_:=hrow
     subst hrow'
     ((conv=>whnf);repeat(any_goals((first|((fail_if_success (have:=b8));rename_i H8 z8 b8' x8;refine DoH.store_all b8' rfl (by kernel_rfl) (by kernel_rfl) (by decide) ?_;intro H9 z9 b8 k9;have hx79:Ext H7 H9:=x8.but k9 (Nat.le_refl _);have hV9:=(hV6.ext hx7).ext hx79;have b89:=hV9.b8;have hn9:hcell H9 ⟨H7.size,0+38,none⟩=some (Value.slice none 0 0):=(by rw[b8.cell];kernel_rfl))|refine Vc.stp ?_)<;>(intros;(conv=>whnf)))))
     have hx49:Ext H4 H9:=hx46.trans (hx7.trans hx79)
     have hC9:=(CntO.new hlc hc2 hc3 hC1.nodup hC1.sub hsn (hlK nd (List.mem_of_getElem? hnd)) m4).keep hx49 id
     have hsl9:=nodup_len hC9.nodup hC9.sub
     have hsl6:(seen1++[nd.name]).length=seen1.length+1:=by simp
     refine(ih (m-1) (by omega) (seen1++[nd.name]) (T1+1) [] none 0 0 H9 (by omega) hC9 (by omega) hV9 (fun H' _=>⟨[],Row.nil _ _,.nil⟩) rfl (by omega) (fun q hq=>by cases hq)).mono ?_
     rintro _ H10 ⟨rfl,⟨seen2,T2,hvis2,hC2,hT2⟩,hk10⟩
     ((conv=>whnf);repeat(any_goals((first|refine Vc.stp ?_)<;>(intros;(conv=>whnf)))))
     have hsp:succP R P nd.name=[]:=by
      have hf':P.find? (fun p=>p.name==nd.name)=some p:=hf
      unfold succP;rw[hf'];dsimp only;rw[hI]
     have hv10:VisI R P seen (l.take (i+1)) seen2:=by
      rw[hts]
      refine hvis.new ?_
      rw[hsp];exact hvis2
     have hk110:But cb H H10:=Only.trans (Only.trans (Only.trans (Only.trans hk1 hx13 fun _ _ h=>h.elim) k4 fun _ _ h=>h) hx49 fun _ _ h=>h.elim) hk10 fun _ _ h=>h
     have hsl2:(seen1++[nd.name]).length≤seen2.length:=nodup_len hC9.nodup hvis2.sub
     exact⟨i+1,⟨rfl,trivial⟩,⟨hlt,hk110,seen2,T2,hv10,hC2,by omega,by omega⟩,by omega⟩
    |some ri=>
     obtain⟨r,cr,hri,rfl,hcn⟩:=hrow
     have hcr:=rowN_E hcn (hV6.h0.trans hx7)
     obtain⟨ya,yc,na,nc,er,r32,hyl,hyr,hnl2,hnr⟩:=(id hcn)
     ((conv=>whnf);repeat(any_goals((first|((fail_if_success (have:=b8));rename_i H8 z8 b8' x8;refine DoH.store_list b8' rfl (by rw[row_ok.len hcr];rfl) (by rw[row_ok.len hcr];rfl) (row_ok.plain hcr) ?_;intro H9 z9 b8 k9;have hx79:Ext H7 H9:=x8.but k9 (Nat.le_refl _);have hV9:=(hV6.ext hx7).ext hx79;have b89:=hV9.b8;have hn9:hcell H9 ⟨H7.size,0+38,none⟩=some (Value.slice na r.needs.length nc):=blk_list b8 0 38 _ (by rw[Nat.zero_add];exact(row_last er (by rw[strV_length];exact r32)).2))|refine Vc.stp ?_)<;>(intros;(conv=>whnf)))))
     have hx49:Ext H4 H9:=hx46.trans (hx7.trans hx79)
     have hC9:=(CntO.new hlc hc2 hc3 hC1.nodup hC1.sub hsn (hlK nd (List.mem_of_getElem? hnd)) m4).keep hx49 id
     have hm9:=m4.ext hx49
     have hl9: ∀ H',But cb H9 H'→RowE (constE needE H0) H' na r.needs:=fun H' k=>((hnr.ext (const_ok need_ok H0) hx79).keep (const_ok need_ok H0) k fun b c u hb hB hu=>by subst hb;exact absurd rfl (hm9.ne hB)).to fun _ _ h=>h
     have hsl9:=nodup_len hC9.nodup hC9.sub
     have hsl6:(seen1++[nd.name]).length=seen1.length+1:=by simp
     have hrl:=hRB.needs r (List.mem_of_getElem? hri)
     have hrK: ∀ q∈r.needs,q.name∈allU R N:=fun q hq=>needsR_all (i:=ri) (by rw[needsR_at hri];exact hq)
     refine(ih (m-1) (by omega) (seen1++[nd.name]) (T1+1) r.needs na _ nc H9 (by omega) hC9 (by omega) hV9 hl9 rfl hrl hrK).mono ?_
     rintro _ H10 ⟨rfl,⟨seen2,T2,hvis2,hC2,hT2⟩,hk10⟩
     ((conv=>whnf);repeat(any_goals((first|refine Vc.stp ?_)<;>(intros;(conv=>whnf)))))
     have hsp:succP R P nd.name=r.needs:=by
      have hf':P.find? (fun p=>p.name==nd.name)=some p:=hf
      unfold succP;rw[hf'];dsimp only;rw[hI];exact needsR_at hri
     have hv10:VisI R P seen (l.take (i+1)) seen2:=by
      rw[hts]
      refine hvis.new ?_
      rw[hsp];exact hvis2
     have hk110:But cb H H10:=Only.trans (Only.trans (Only.trans (Only.trans hk1 hx13 fun _ _ h=>h.elim) k4 fun _ _ h=>h) hx49 fun _ _ h=>h.elim) hk10 fun _ _ h=>h
     have hsl2:(seen1++[nd.name]).length≤seen2.length:=nodup_len hC9.nodup hvis2.sub
     exact⟨i+1,⟨rfl,trivial⟩,⟨hlt,hk110,seen2,T2,hv10,hC2,by omega,by omega⟩,by omega⟩
 ·obtain rfl:i=n:=by omega
  ((conv=>whnf);repeat(any_goals((first|refine Vc.stp ?_)<;>(intros;(conv=>whnf)))))
  rw[←hn,List.take_length]at hvis
  exact⟨rfl,⟨seen1,T1,hvis,hC1,hT1⟩,hk1⟩
end Go.Proofs.YtjdieklgoepdjaaGreatDoor
namespace Go.Proofs.YtjdieklgoepdjaaGreatDoor
open Go Go.Vc Go.Scr Go.Slv
theorem cnt_nil (K:List Txt) {H:Heap} {cb:Nat} (h:MapO H cb []):CntO K H cb [] 0:=
 ⟨⟨fun _=>none,⟨[],h,fun k=>rfl⟩,fun k j e=>(by cases e),fun k hk=>(by cases hk)⟩,List.nodup_nil,fun k hk=>(by cases hk)⟩
set_option maxHeartbeats 4000000 in
theorem reached_any (R:List RowP) (hRB:RowsB R) (hRl:R.length≤200) (N:List NeedP) (hNl:N.length≤1000) (P:List PinP) (hPv: ∀ p∈P,VerS p.v) (H0 H:Heap) (hg:Glb H0) (k0:Ext H0 H) (pb:Nat) (ra:Option Addr) (rc:Nat) (na:Option Addr) (nn nc:Nat) (hr:RowE rowE H0 ra R) (hn:RowE needE H0 na N) (hnn:N.length=nn) (hp:PinO P H0 H pb):
  CallH Tryz.prog 87 [.slice ra R.length rc,.slice na nn nc,.map (some pb)] H fun v H'=>(∃ cb S T,v= .map (some cb)∧H.size≤cb∧VisI R P [] N S∧CntO (allU R N) H' cb S T)∧Ext H H':=by
 refine Vc.CallH.body Tryz.func87 Tryz.call87 rfl (by decide+kernel) rfl ?_
 ((conv=>whnf);repeat(any_goals((first|((fail_if_success (have:=mc));refine SemH.makeMap0 ?_;intro Hm zm mc xm)|(refine SemH.mkFunc ?_)|refine Vc.stp ?_)<;>(intros;(conv=>whnf)))))
 rename_i H1 z1 b1 x1 H2 z2 b2 x2 H3 z3 b3 x3 H4 z4 b4 k4 H5 z5 b5 x5 H6 z6 b6 k6
 have x46:Ext H4 H6:=x5.but k6 (by omega)
 have xm6:Ext Hm H6:=(x3.but k4 (by omega)).trans x46
 have x06:Ext H H6:=x1.trans (x2.trans (xm.trans xm6))
 have hz0:=k0.size
 have hpb:pb<H.size:=by obtain⟨l,hl,_⟩:=hp;exact hl.lt
 have hV:VsO R P H0 H2.size pb Hm.size H1.size H.size H4.size ra rc H6:=⟨k0.trans x06,by omega,b4.ext x46,b2.ext (xm.trans xm6),b1.ext (x2.trans (xm.trans xm6)),b6,hp.ext x06,by omega⟩
 have hC:=(cnt_nil (allU R N) mc).keep xm6 id
 refine(visit_any R hRB hRl N hNl P hPv H0 hg H2.size pb Hm.size H1.size H.size H4.size ra rc hr (allU R N).length [] 0 N na nn nc H6 (by simp) hC (by omega) hV (fun H' k=>(RowE.const hn).ext (const_ok need_ok H0).ok (hV.h0.but k hV.low)) hnn (by omega) (fun nd hnd=>List.mem_append_left _ (List.mem_map.2 ⟨nd,hnd,rfl⟩))).mono ?_
 rintro _ H7 ⟨rfl,⟨S,T,hvis,hC7,_⟩,k7⟩
 have hm6:MapO H6 H2.size []:=mc.ext xm6
 have hV7:=hV.but hm6 k7
 have b77:=hV7.b7
 ((conv=>whnf);repeat(any_goals((first|refine Vc.stp ?_)<;>(intros;(conv=>whnf)))))
 exact⟨⟨H2.size,S,T,rfl,by omega,hvis,hC7⟩,x06.but k7 (by omega)⟩
theorem PinO.put {P:List PinP} (hs:SortP P) {i:Nat} {p:PinP} (hp:P[i]? =some p) {H0 H H':Heap} {b:Nat} (h:PinO (P.take i) H0 H b) {c:List Value} (hc:pinE H0 p c) {l:List (Bs×Value)} (hl: ∀ k,(∀ q,findP (P.take i) k=some q→ ∃ c,mget l k=some (.agg c.toArray)∧pinE H0 q c)∧(findP (P.take i) k=none→mget l k=none)) (hm:MapO H' b (mput l p.name (.agg c.toArray))):PinO (P.take (i+1)) H0 H' b:=by
 refine⟨_,hm,fun k=> ?_⟩
 rw[mget_put]
 have e:=find_take hs hp k
 unfold findP
 rw[e]
 by_cases hk:k=p.name
 ·rw[if_pos hk,if_pos hk]
  exact⟨fun q hq=>by cases hq;exact⟨c,rfl,hc⟩,fun hq=>by cases hq⟩
 ·rw[if_neg hk,if_neg hk]
  exact hl k
end Go.Proofs.YtjdieklgoepdjaaGreatDoor
namespace Go.Proofs.YtjdieklgoepdjaaGreatDoor
open Go Go.Vc Go.Scr Go.Slv
theorem PinO.up {P:List PinP} {H0 H1 H:Heap} {b:Nat} (h:PinO P H0 H b) (k:Ext H0 H1):PinO P H1 H b:=by
 obtain⟨l,h1,h2⟩:=h
 exact⟨l,h1,fun q=>⟨fun p hp=>by
  obtain⟨c,e,hc⟩:=(h2 q).1 p hp
  exact⟨c,e,pin_ok.ext k hc⟩,(h2 q).2⟩⟩
set_option maxHeartbeats 4000000 in
theorem sfits_any (R:List RowP) (ha:Apart R) (hRB:RowsB R) (hRl:R.length≤200) (N:List NeedP) (hNB: ∀ n∈N,SpnB n.span) (P:List PinP) (hs:SortP P) (hrow: ∀ p∈P,∃ r∈R,pinR r=p) (ra na pa:Option Addr) (rc nn nc pn pc:Nat) (H:Heap) (hg:Glb H)
  (hR:RowE rowE H ra R) (hN:RowE needE H na N) (hP:RowE pinE H pa P) (hnn:N.length=nn) (hpn:P.length=pn) (hnl:nn≤1000) (hpl:pn≤900):
  CallH Tryz.prog 37 [.slice ra R.length rc,.slice na nn nc,.slice pa pn pc] H fun x H'=>(∃ b:Bool,x= .bool b∧(b=true↔FitP R N P))∧Ext H H':=by
 have hPS: ∀ p∈P,VerS p.v:=fun p hp=>by
  obtain⟨r,hr,rfl⟩:=hrow p hp
  exact hRB.small r hr
 have hPv: ∀ p∈P,VerB p.v:=fun p hp=>verS_b (hPS p hp)
 refine Vc.CallH.body Tryz.func37 Tryz.call37 rfl (by decide+kernel) rfl ?_
 ((conv=>whnf);repeat(any_goals((first|((fail_if_success (have:=mc));refine SemH.makeMap0 ?_;intro Hm zm mc xm)|refine Vc.stp ?_)<;>(intros;(conv=>whnf)))))
 rename_i Ha za ba xa Hb zb bb kb
 have hxb:Ext H Hb:=xm.trans (xa.but kb (by omega))
 have hpo:PinO (P.take 0) H Hb H.size:=⟨[],mc.ext (xa.but kb (by omega)),fun k=>⟨fun p hp=>(by rw[List.take_zero]at hp;cases hp),fun _=>rfl⟩⟩
 refine LoopH.intro (fun(i:Nat)=>[(21,.int .i64 i)]) (fun i H'=>i≤pn∧PinO (P.take i) H H' H.size∧Blk H' Hm.size #[.map (some H.size)] 128∧Ext H H') (fun i=>pn-i) 0 ⟨rfl,trivial⟩ ⟨Nat.zero_le _,hpo,bb,hxb⟩ ?_
 rintro i H1 ⟨hi,⟨lp,hlp,hlk⟩,b71,hx1⟩
 have hz1:=hx1.size
 by_cases hlt:i<pn
 ·obtain⟨p,hp⟩: ∃ p,P[i]? =some p:=⟨_,List.getElem?_eq_getElem (by omega)⟩
  have hpm:=List.mem_of_getElem? hp
  obtain⟨r,hr,hrp⟩:=hrow p hpm
  obtain⟨ri,hri⟩:=List.getElem?_of_mem hr
  have hidx:idxR R p.name p.v=some ri:=by rw[←hrp];exact idx_of ha hri
  have hsw:=fun c H' (k:Ext H H') hc=>srow_any R p (hPS p hpm) hRB ra R.length rc c H H' (hg.ext k) k hR rfl (by omega) hc
  rw[hidx]at hsw
  have hsum:decide (r.sum=p.sum)=true:=by rw[←hrp];exact decide_eq_true rfl
  by_cases h0:i=0
  ·((conv=>whnf);repeat(any_goals((first|(refine IdxA.pin hP hpn i p rfl hp ?_;intro b1 o1 c1 pa1 pc1 hp1 hl1 hpl1 hpr1 hcl1 hn1 hv1)|(refine IdxA.pin hP hpn (i-1) q (by omega) hq ?_;intro b2 o2 c2 pa2 pc2 hp2 hl2 hpl2 hpr2 hcl2 hn2 hv2)|((with_reducible apply SemH.load_pin);(focus((exact hl1)));(focus((exact hcl1)));(focus((exact hx1.trans (by exact Vc.xt))));(focus((conv=>whnf))))|((fail_if_success (have:=b3));rename_i Hp zp bp xp;refine DoH.store_list bp rfl (by rw[hl1];rfl) (by rw[hl1];rfl) (pin_ok.plain hp1) ?_;intro H3 z3 b3 k3;have hx13:Ext H1 H3:=xp.but k3 (Nat.le_refl _);have hpw:=fun k u hu=>blk_list b3 0 k u (by rw[Nat.zero_add];exact hu);have hpn3:hcell H3 ⟨H1.size,0+0,none⟩=some (.string (mkS p.name)):=(by obtain⟨_,_,ec1,_⟩:=(id hp1);exact blk_list b3 0 0 _ (by rw[ec1];rfl)))|((with_reducible apply SemH.load_pin);(focus((exact hl1)));(focus((exact hpw)));(focus((exact Vc.xt)));(focus((conv=>whnf))))|(refine(hsw _ _ (hx1.trans hx13) hp1).mono ?_;rintro _ H4 ⟨⟨r4,cr,hr4,rfl,hcn⟩,hx4⟩;have hz4:=hx4.size;rw[hri]at hr4;have e7:=Option.some.inj hr4;subst e7;rw[hsum];have hcr:=rowN_E hcn (hx1.trans (hx13.trans hx4)))|((fail_if_success (have:=b5));rename_i Hq zq bq xq;refine DoH.store_list bq rfl (by rw[row_ok.len hcr];rfl) (by rw[row_ok.len hcr];rfl) (row_ok.plain hcr) ?_;intro H5 z5 b5 k5;have hx45:Ext H4 H5:=xq.but k5 (Nat.le_refl _);have hx15:=And.intro trivial (hx13.trans (hx4.trans hx45));obtain⟨sa,sc,ma,mc,er,r32,hsl,hsr,hnl3,hnr3⟩:=(id hcr);have hn38:hcell H5 ⟨H4.size,0+38,none⟩=some (.slice ma r.needs.length mc):=blk_list b5 0 38 _ (by rw[Nat.zero_add];exact(row_last er (by rw[strV_length];exact r32)).2))|((fail_if_success (have:=m6));refine DoH.mapPut (hlp.ext hx15.2) rfl rfl ?_;intro H6 z6 m6 k6)|refine Vc.stp ?_)<;>(intros;(conv=>whnf)))))
   exact⟨i+1,⟨rfl,trivial⟩,⟨by omega,PinO.put hs hp ⟨lp,hlp,hlk⟩ hp1 hlk m6,(b71.ext hx15.2).but k6 (by omega),(hx1.trans hx15.2).but k6 (Nat.le_refl _)⟩,by omega⟩
  ·obtain⟨q,hq⟩: ∃ q,P[i-1]? =some q:=⟨_,List.getElem?_eq_getElem (by omega)⟩
   have hlsq:Op.bytesLess (mkS q.name).toList (mkS p.name).toList=true:=by
    rw[toListS,toListS]
    obtain⟨g1,g2⟩:=List.getElem?_eq_some_iff.1 hq
    obtain⟨g3,g4⟩:=List.getElem?_eq_some_iff.1 hp
    rw[←g2,←g4]
    exact List.pairwise_iff_getElem.1 hs _ _ g1 g3 (by omega)
   ((conv=>whnf);repeat(any_goals((first|(refine IdxA.pin hP hpn i p rfl hp ?_;intro b1 o1 c1 pa1 pc1 hp1 hl1 hpl1 hpr1 hcl1 hn1 hv1)|(refine IdxA.pin hP hpn (i-1) q (by omega) hq ?_;intro b2 o2 c2 pa2 pc2 hp2 hl2 hpl2 hpr2 hcl2 hn2 hv2)|((with_reducible apply SemH.load_pin);(focus((exact hl1)));(focus((exact hcl1)));(focus((exact hx1.trans (by exact Vc.xt))));(focus((conv=>whnf))))|((fail_if_success (have:=b3));rename_i Hp zp bp xp;refine DoH.store_list bp rfl (by rw[hl1];rfl) (by rw[hl1];rfl) (pin_ok.plain hp1) ?_;intro H3 z3 b3 k3;have hx13:Ext H1 H3:=xp.but k3 (Nat.le_refl _);have hpw:=fun k u hu=>blk_list b3 0 k u (by rw[Nat.zero_add];exact hu);have hpn3:hcell H3 ⟨H1.size,0+0,none⟩=some (.string (mkS p.name)):=(by obtain⟨_,_,ec1,_⟩:=(id hp1);exact blk_list b3 0 0 _ (by rw[ec1];rfl)))|((with_reducible apply SemH.load_pin);(focus((exact hl1)));(focus((exact hpw)));(focus((exact Vc.xt)));(focus((conv=>whnf))))|(refine(hsw _ _ (hx1.trans hx13) hp1).mono ?_;rintro _ H4 ⟨⟨r4,cr,hr4,rfl,hcn⟩,hx4⟩;have hz4:=hx4.size;rw[hri]at hr4;have e7:=Option.some.inj hr4;subst e7;rw[hsum];have hcr:=rowN_E hcn (hx1.trans (hx13.trans hx4)))|((fail_if_success (have:=b5));rename_i Hq zq bq xq;refine DoH.store_list bq rfl (by rw[row_ok.len hcr];rfl) (by rw[row_ok.len hcr];rfl) (row_ok.plain hcr) ?_;intro H5 z5 b5 k5;have hx45:Ext H4 H5:=xq.but k5 (Nat.le_refl _);have hx15:=And.intro trivial (hx13.trans (hx4.trans hx45));obtain⟨sa,sc,ma,mc,er,r32,hsl,hsr,hnl3,hnr3⟩:=(id hcr);have hn38:hcell H5 ⟨H4.size,0+38,none⟩=some (.slice ma r.needs.length mc):=blk_list b5 0 38 _ (by rw[Nat.zero_add];exact(row_last er (by rw[strV_length];exact r32)).2))|((fail_if_success (have:=m6));refine DoH.mapPut (hlp.ext hx15.2) rfl rfl ?_;intro H6 z6 m6 k6)|refine Vc.stp ?_)<;>(intros;(conv=>whnf)))))
   exact⟨i+1,⟨rfl,trivial⟩,⟨by omega,PinO.put hs hp ⟨lp,hlp,hlk⟩ hp1 hlk m6,(b71.ext hx15.2).but k6 (by omega),(hx1.trans hx15.2).but k6 (Nat.le_refl _)⟩,by omega⟩
 ·obtain rfl:i=pn:=by omega
  rw[List.take_of_length_le (by omega)]at hlk
  have hpo1:PinO P H H1 H.size:=⟨lp,hlp,hlk⟩
  have hmet:=fun(l:List NeedP) (hl: ∀ n∈l,SpnB n.span) a n cap H2 H3 (k:Ext H1 H2) (k2:Ext H2 H3) (h:RowE needE H2 a l) (hn:l.length=n) (hnl:n≤1000000)=>metall_any P hPv l hl a n cap Hm.size H.size H2 H3 k2 h hn hnl (b71.ext (k.trans k2)) ((hpo1.ext (k.trans k2)).up (hx1.trans k))
  ((conv=>whnf);repeat(any_goals((first|(refine SemH.mkFunc ?_)|(refine(reached_any R hRB hRl N (by omega) P hPS H H1 hg hx1 H.size ra rc na nn nc hR hN hnn hpo1).mono ?_;rintro _ H2 ⟨⟨cb,S,T,rfl,hcb,hvis,hC⟩,hx2⟩;have hz2:=hx2.size)|refine Vc.stp ?_)<;>(intros;(conv=>whnf)))))
  have hre:=fun k=>vis_reach ha hs hrow hvis k
  have hx12:=hx2
  have hx02:Ext H H2:=hx1.trans hx2
  refine LoopH.intro (fun(i:Nat)=>[(61,.int .i64 i)]) (fun i H'=>i≤P.length∧(∀ j p,j<i→P[j]? =some p→(∀ r∈R,pinR r=p→ ∀ n∈r.needs,metB P n=true)∧p.name∈S)∧Ext H2 H') (fun i=>P.length-i) 0 ⟨rfl,trivial⟩ ⟨Nat.zero_le _,fun j p h=>absurd h (Nat.not_lt_zero _),Ext.refl _⟩ ?_
  rintro j H3 ⟨hj,hall,hx3⟩
  have hz3:=hx3.size
  have hC3:=hC.keep hx3 id
  obtain⟨cf,⟨lc,hmc,hlc⟩,hc2,hc3⟩:=hC3.out
  by_cases hjl:j<P.length
  ·obtain⟨p,hp⟩: ∃ p,P[j]? =some p:=⟨_,List.getElem?_eq_getElem hjl⟩
   have hpm:=List.mem_of_getElem? hp
   obtain⟨r,hr,hrp⟩:=hrow p hpm
   obtain⟨ri,hri⟩:=List.getElem?_of_mem hr
   have hidx:idxR R p.name p.v=some ri:=by rw[←hrp];exact idx_of ha hri
   have hsw:=fun c H' (k:Ext H H') hc=>srow_any R p (hPS p hpm) hRB ra R.length rc c H H' (hg.ext k) k hR rfl (by omega) hc
   rw[hidx]at hsw
   have hsum:decide (r.sum=p.sum)=true:=by rw[←hrp];exact decide_eq_true rfl
   have hspn:=hRB.span r hr
   have hnlen:=hRB.needs r hr
   have hx03:=And.intro trivial (hx02.trans hx3)
   obtain⟨bb,hbb⟩: ∃ bb,(r.needs.any fun nd=> !metB P nd)=bb:=⟨_,rfl⟩
   cases bb with
   |true=>
    ((conv=>whnf);repeat(any_goals((first|(refine IdxA.pin hP hpn j p rfl hp ?_;intro b1 o1 c1 pa1 pc1 hp1 hl1 hpl1 hpr1 hcl1 hn1 hv1)|((with_reducible apply SemH.load_pin);(focus((exact hl1)));(focus((exact hcl1)));(focus((exact hx03.2.trans (by exact Vc.xt))));(focus((conv=>whnf))))|((fail_if_success (have:=b4));rename_i Hp zp bp xp;refine DoH.store_list bp rfl (by rw[hl1];rfl) (by rw[hl1];rfl) (pin_ok.plain hp1) ?_;intro H4 z4 b4 k4;have hx34:Ext H3 H4:=xp.but k4 (Nat.le_refl _);have hpw:=fun k u hu=>blk_list b4 0 k u (by rw[Nat.zero_add];exact hu);have hpn3:hcell H4 ⟨H3.size,0+0,none⟩=some (.string (mkS p.name)):=(by obtain⟨_,_,ec1,_⟩:=(id hp1);exact blk_list b4 0 0 _ (by rw[ec1];rfl)))|((with_reducible apply SemH.load_pin);(focus((exact hl1)));(focus((exact hpw)));(focus((exact Vc.xt)));(focus((conv=>whnf))))|(refine(hsw _ _ (hx03.2.trans hx34) hp1).mono ?_;rintro _ H5 ⟨⟨r4,cr,hr4,rfl,hcn⟩,hx5⟩;have hz5:=hx5.size;rw[hri]at hr4;have e7:=Option.some.inj hr4;subst e7;rw[hsum];have hcr:=rowN_E hcn (hx03.2.trans (hx34.trans hx5)))|((fail_if_success (have:=b6));rename_i Hq zq bq xq;refine DoH.store_list bq rfl (by rw[row_ok.len hcr];rfl) (by rw[row_ok.len hcr];rfl) (row_ok.plain hcr) ?_;intro H6 z6 b6 k6;have hx56:Ext H5 H6:=xq.but k6 (Nat.le_refl _);have hx36:=And.intro trivial (hx34.trans (hx5.trans hx56));obtain⟨sa,sc,ma,mc,er,r32,hsl,hsr,hnl3,hnr3⟩:=(id hcr);have hn38:hcell H6 ⟨H5.size,0+38,none⟩=some (.slice ma r.needs.length mc):=blk_list b6 0 38 _ (by rw[Nat.zero_add];exact(row_last er (by rw[strV_length];exact r32)).2))|(refine(hmet r.needs hspn ma _ mc H6 _ (hx12.trans (hx3.trans hx36.2)) (by exact Vc.xt) (hnr3.ext need_ok (by exact Vc.xt)) rfl (by omega)).mono ?_;rintro _ H8 ⟨rfl,hx8⟩;have hz8:=hx8.size;rw[hbb])|refine Vc.stp ?_)<;>(intros;(conv=>whnf)))))
    refine⟨⟨false,rfl,fun e=>(by cases e),fun hf=> ?_⟩,hx03.2.trans (hx36.2.trans (by exact Vc.xt))⟩
    obtain⟨n,hn,e⟩:=List.any_eq_true.1 hbb
    have:=(metB_iff hs n).2 (hf.all r hr (by rw[hrp];exact hpm) n hn)
    rw[this]at e;cases e
   |false=>
    have hall': ∀ n∈r.needs,metB P n=true:=fun n hn=>by
     cases e:metB P n with
     |true=>rfl
     |false=>
      have:(r.needs.any fun nd=> !metB P nd)=true:=List.any_eq_true.2 ⟨n,hn,by rw[e];rfl⟩
      rw[hbb]at this;cases this
    cases hcf:cf p.name with
    |none=>
     have hgk:(mget lc p.name).getD (.int .i64 0)= .int .i64 0:=by rw[hlc,hcf];rfl
     ((conv=>whnf);repeat(any_goals((first|(refine IdxA.pin hP hpn j p rfl hp ?_;intro b1 o1 c1 pa1 pc1 hp1 hl1 hpl1 hpr1 hcl1 hn1 hv1)|((with_reducible apply SemH.load_pin);(focus((exact hl1)));(focus((exact hcl1)));(focus((exact hx03.2.trans (by exact Vc.xt))));(focus((conv=>whnf))))|((fail_if_success (have:=b4));rename_i Hp zp bp xp;refine DoH.store_list bp rfl (by rw[hl1];rfl) (by rw[hl1];rfl) (pin_ok.plain hp1) ?_;intro H4 z4 b4 k4;have hx34:Ext H3 H4:=xp.but k4 (Nat.le_refl _);have hpw:=fun k u hu=>blk_list b4 0 k u (by rw[Nat.zero_add];exact hu);have hpn3:hcell H4 ⟨H3.size,0+0,none⟩=some (.string (mkS p.name)):=(by obtain⟨_,_,ec1,_⟩:=(id hp1);exact blk_list b4 0 0 _ (by rw[ec1];rfl)))|((with_reducible apply SemH.load_pin);(focus((exact hl1)));(focus((exact hpw)));(focus((exact Vc.xt)));(focus((conv=>whnf))))|(refine(hsw _ _ (hx03.2.trans hx34) hp1).mono ?_;rintro _ H5 ⟨⟨r4,cr,hr4,rfl,hcn⟩,hx5⟩;have hz5:=hx5.size;rw[hri]at hr4;have e7:=Option.some.inj hr4;subst e7;rw[hsum];have hcr:=rowN_E hcn (hx03.2.trans (hx34.trans hx5)))|((fail_if_success (have:=b6));rename_i Hq zq bq xq;refine DoH.store_list bq rfl (by rw[row_ok.len hcr];rfl) (by rw[row_ok.len hcr];rfl) (row_ok.plain hcr) ?_;intro H6 z6 b6 k6;have hx56:Ext H5 H6:=xq.but k6 (Nat.le_refl _);have hx36:=And.intro trivial (hx34.trans (hx5.trans hx56));obtain⟨sa,sc,ma,mc,er,r32,hsl,hsr,hnl3,hnr3⟩:=(id hcr);have hn38:hcell H6 ⟨H5.size,0+38,none⟩=some (.slice ma r.needs.length mc):=blk_list b6 0 38 _ (by rw[Nat.zero_add];exact(row_last er (by rw[strV_length];exact r32)).2))|(refine(hmet r.needs hspn ma _ mc H6 _ (hx12.trans (hx3.trans hx36.2)) (by exact Vc.xt) (hnr3.ext need_ok (by exact Vc.xt)) rfl (by omega)).mono ?_;rintro _ H8 ⟨rfl,hx8⟩;have hz8:=hx8.size;rw[hbb])|((with_reducible apply SemH.lookV);(focus((exact hmc.ext (hx36.2.trans (by exact Vc.xt)))));(focus(rfl));(focus(rfl));(focus(rfl));(focus(rfl));(focus((exact hgk)));(focus((conv=>whnf))))|refine Vc.stp ?_)<;>(intros;(conv=>whnf)))))
     refine⟨⟨false,rfl,fun e=>(by cases e),fun hf=> ?_⟩,hx03.2.trans (hx36.2.trans (by exact Vc.xt))⟩
     obtain⟨j',hj'⟩:=hc3 _ ((hre p.name).2 (hf.reach p hpm))
     rw[hcf]at hj';cases hj'
    |some c=>
     have hcb:=hc2 _ _ hcf
     have hgk:(mget lc p.name).getD (.int .i64 0)= .int .i64 c:=by rw[hlc,hcf];rfl
     ((conv=>whnf);repeat(any_goals((first|(refine IdxA.pin hP hpn j p rfl hp ?_;intro b1 o1 c1 pa1 pc1 hp1 hl1 hpl1 hpr1 hcl1 hn1 hv1)|((with_reducible apply SemH.load_pin);(focus((exact hl1)));(focus((exact hcl1)));(focus((exact hx03.2.trans (by exact Vc.xt))));(focus((conv=>whnf))))|((fail_if_success (have:=b4));rename_i Hp zp bp xp;refine DoH.store_list bp rfl (by rw[hl1];rfl) (by rw[hl1];rfl) (pin_ok.plain hp1) ?_;intro H4 z4 b4 k4;have hx34:Ext H3 H4:=xp.but k4 (Nat.le_refl _);have hpw:=fun k u hu=>blk_list b4 0 k u (by rw[Nat.zero_add];exact hu);have hpn3:hcell H4 ⟨H3.size,0+0,none⟩=some (.string (mkS p.name)):=(by obtain⟨_,_,ec1,_⟩:=(id hp1);exact blk_list b4 0 0 _ (by rw[ec1];rfl)))|((with_reducible apply SemH.load_pin);(focus((exact hl1)));(focus((exact hpw)));(focus((exact Vc.xt)));(focus((conv=>whnf))))|(refine(hsw _ _ (hx03.2.trans hx34) hp1).mono ?_;rintro _ H5 ⟨⟨r4,cr,hr4,rfl,hcn⟩,hx5⟩;have hz5:=hx5.size;rw[hri]at hr4;have e7:=Option.some.inj hr4;subst e7;rw[hsum];have hcr:=rowN_E hcn (hx03.2.trans (hx34.trans hx5)))|((fail_if_success (have:=b6));rename_i Hq zq bq xq;refine DoH.store_list bq rfl (by rw[row_ok.len hcr];rfl) (by rw[row_ok.len hcr];rfl) (row_ok.plain hcr) ?_;intro H6 z6 b6 k6;have hx56:Ext H5 H6:=xq.but k6 (Nat.le_refl _);have hx36:=And.intro trivial (hx34.trans (hx5.trans hx56));obtain⟨sa,sc,ma,mc,er,r32,hsl,hsr,hnl3,hnr3⟩:=(id hcr);have hn38:hcell H6 ⟨H5.size,0+38,none⟩=some (.slice ma r.needs.length mc):=blk_list b6 0 38 _ (by rw[Nat.zero_add];exact(row_last er (by rw[strV_length];exact r32)).2))|(refine(hmet r.needs hspn ma _ mc H6 _ (hx12.trans (hx3.trans hx36.2)) (by exact Vc.xt) (hnr3.ext need_ok (by exact Vc.xt)) rfl (by omega)).mono ?_;rintro _ H8 ⟨rfl,hx8⟩;have hz8:=hx8.size;rw[hbb])|((with_reducible apply SemH.lookV);(focus((exact hmc.ext (hx36.2.trans (by exact Vc.xt)))));(focus(rfl));(focus(rfl));(focus(rfl));(focus(rfl));(focus((exact hgk)));(focus((conv=>whnf))))|refine Vc.stp ?_)<;>(intros;(conv=>whnf)))))
     exact⟨j+1,⟨rfl,trivial⟩,⟨by omega,fun j1 p' hj1 hp'=>by
      by_cases e:j1=j
      ·subst e
       rw[hp]at hp';cases hp'
       refine⟨fun r' hr' hrp' n hn=> ?_,hcb.2.2⟩
       have:r'=r:=row_one ha hr' hr (congrArg PinP.name (hrp'.trans hrp.symm)) (congrArg PinP.v (hrp'.trans hrp.symm))
       subst this
       exact hall' n hn
      ·exact hall j1 p' (by omega) hp',hx3.trans (hx36.2.trans (by exact Vc.xt))⟩,by omega⟩
  ·obtain rfl:j=P.length:=by omega
   obtain⟨bb,hbb⟩: ∃ bb,(N.any fun nd=> !metB P nd)=bb:=⟨_,rfl⟩
   ((conv=>whnf);repeat(any_goals((first|(refine(hmet N hNB na nn nc H3 _ (hx12.trans hx3) (Ext.refl _) (hN.ext need_ok (hx02.trans hx3)) hnn (by omega)).mono ?_;rintro _ H8 ⟨rfl,hx8⟩;have hz8:=hx8.size;rw[hbb])|refine Vc.stp ?_)<;>(intros;(conv=>whnf)))))
   refine⟨⟨!bb,rfl,?_⟩,(hx02.trans hx3).trans (by exact Vc.xt)⟩
   constructor
   ·intro e
    have hb:bb=false:=by simpa using e
    rw[hb]at hbb
    refine⟨hs,hrow,fun n hn=>(metB_iff hs n).1 ?_,fun r hr hp n hn=> ?_,fun p hp=> ?_⟩
    ·cases e:metB P n with
     |true=>rfl
     |false=>
      have:(N.any fun nd=> !metB P nd)=true:=List.any_eq_true.2 ⟨n,hn,by rw[e];rfl⟩
      rw[hbb]at this;cases this
    ·obtain⟨j1,hj1⟩:=List.getElem?_of_mem hp
     exact(metB_iff hs n).1 ((hall j1 _ (List.getElem?_eq_some_iff.1 hj1).1 hj1).1 r hr rfl n hn)
    ·obtain⟨j1,hj1⟩:=List.getElem?_of_mem hp
     exact(hre p.name).1 (hall j1 _ (List.getElem?_eq_some_iff.1 hj1).1 hj1).2
   ·intro hf
    have:bb=false:=by
     rw[←hbb,Bool.eq_false_iff]
     intro h
     obtain⟨n,hn,e⟩:=List.any_eq_true.1 h
     rw[(metB_iff hs n).2 (hf.root n hn)]at e
     cases e
    rw[this];rfl
end Go.Proofs.YtjdieklgoepdjaaGreatDoor
