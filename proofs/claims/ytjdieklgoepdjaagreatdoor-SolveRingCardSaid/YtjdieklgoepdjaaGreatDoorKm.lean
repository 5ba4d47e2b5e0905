import Derived.Test.YtjdieklgoepdjaaGreatDoorKe
import Derived.Test.YtjdieklgoepdjaaGreatDoorKp
import Derived.Test.YtjdieklgoepdjaaGreatDoorKd
import Derived.Test.YtjdieklgoepdjaaGreatDoorKk
import Derived.Test.YtjdieklgoepdjaaGreatDoorKl
import Derived.Test.YtjdieklgoepdjaaGreatDoorKj
import Derived.Test.YtjdieklgoepdjaaGreatDoorKi
set_option linter.unusedVariables false
set_option linter.unusedSimpArgs false
set_option maxRecDepth 100000
/- The help's Version and Pins: the same. -/
namespace Go.Proofs.YtjdieklgoepdjaaGreatDoor
open Go Go.Vc Go.Scr Go.Slv
theorem pin_same (p q:PinP):p=q↔p.name=q.name∧p.v=q.v∧p.sum=q.sum:=by
 cases p;cases q;simp
theorem list_step {α:Type} [DecidableEq α] {P Q:List α} {i:Nat} {p q:α} (hp:P[i]? =some p) (hq:Q[i]? =some q):decide (P.drop i=Q.drop i)=(decide (p=q)&&decide (P.drop (i+1)=Q.drop (i+1))):=by
 obtain⟨g1,g2⟩:=List.getElem?_eq_some_iff.1 hp
 obtain⟨g3,g4⟩:=List.getElem?_eq_some_iff.1 hq
 rw[List.drop_eq_getElem_cons g1,List.drop_eq_getElem_cons g3,g2,g4]
 simp[List.cons.injEq]
theorem ver_same (v w:VerP):v=w↔v.ma=w.ma∧v.mi=w.mi∧v.pa=w.pa∧v.pre=w.pre:=by
 cases v;cases w;simp
set_option maxHeartbeats 4000000 in
theorem hversion_any (v w:VerP) (hv:v.pre.length≤1000000000) (hw:w.pre.length≤1000000000) (x y:Value) (H:Heap) (hx:VerO H v x) (hy:VerO H w y):CallH Tryz.prog 82 [x,y] H fun u H'=>u= .bool (decide (v=w))∧Ext H H':=by
 obtain⟨xa,xc,ex,hxl,hxr⟩:=hx.out
 obtain⟨ya,yc,ey,hyl,hyr⟩:=hy.out
 subst ex ey
 refine Vc.CallH.body Tryz.func82 Tryz.call82 rfl (by decide+kernel) rfl ?_
 unfold verC
 by_cases h1:v.ma=w.ma
 ·by_cases h2:v.mi=w.mi
  ·by_cases h3:v.pa=w.pa
   ·have e:decide (v=w)=decide (v.pre=w.pre):=by rw[decide_eq_decide,ver_same];simp[h1,h2,h3]
    rw[e]
    ((conv=>whnf);repeat(any_goals((first|(refine(strings_any v.pre w.pre xa ya _ _ xc yc _ (hxr.ext (by exact Vc.xt)) (hyr.ext (by exact Vc.xt)) rfl rfl hv hw).mono ?_;rintro _ _ ⟨rfl,rfl⟩)|refine Vc.stp ?_)<;>(intros;(conv=>whnf)))))
    exact⟨rfl,by exact Vc.xt⟩
   ·have e:decide (v=w)=false:=decide_eq_false fun h=>h3 (by rw[h])
    rw[e]
    ((conv=>whnf);repeat(any_goals((first|refine Vc.stp ?_)<;>(intros;(conv=>whnf)))))
    exact⟨rfl,by exact Vc.xt⟩
  ·have e:decide (v=w)=false:=decide_eq_false fun h=>h2 (by rw[h])
   rw[e]
   ((conv=>whnf);repeat(any_goals((first|refine Vc.stp ?_)<;>(intros;(conv=>whnf)))))
   exact⟨rfl,by exact Vc.xt⟩
 ·have e:decide (v=w)=false:=decide_eq_false fun h=>h1 (by rw[h])
  rw[e]
  ((conv=>whnf);repeat(any_goals((first|refine Vc.stp ?_)<;>(intros;(conv=>whnf)))))
  exact⟨rfl,by exact Vc.xt⟩
set_option maxHeartbeats 4000000 in
theorem hpins_any (P Q:List PinP) (hPl: ∀ p∈P,p.v.pre.length≤1000000000) (hQl: ∀ p∈Q,p.v.pre.length≤1000000000) (a b:Option Addr) (n m ca cb:Nat) (H:Heap) (hP:RowE pinE H a P) (hQ:RowE pinE H b Q) (hn:P.length=n) (hm:Q.length=m) (hnl:n≤1000000) (hml:m≤1000000):
  CallH Tryz.prog 36 [.slice a n ca,.slice b m cb] H fun u H'=>u= .bool (decide (P=Q))∧Ext H H':=by
 obtain⟨Z,hZ⟩: ∃ Z,decide (P=Q)=Z:=⟨_,rfl⟩
 rw[hZ]
 subst hn
 refine Vc.CallH.body Tryz.func36 Tryz.call36 rfl (by decide+kernel) rfl ?_
 by_cases hnm:P.length=m
 ·((conv=>whnf);repeat(any_goals((first|refine Vc.stp ?_)<;>(intros;(conv=>whnf)))))
  refine LoopH.intro (fun(i:Nat)=>[(5,.int .i64 i)]) (fun i H'=>i≤P.length∧Z=decide (P.drop i=Q.drop i)∧Ext H H') (fun i=>P.length-i) 0 ⟨rfl,trivial⟩ ⟨Nat.zero_le _,hZ.symm,Ext.refl _⟩ ?_
  rintro i H1 ⟨hi,hinv,hx1⟩
  have hz1:=hx1.size
  by_cases hlt:i<P.length
  ·obtain⟨p,hp⟩: ∃ p,P[i]? =some p:=⟨_,List.getElem?_eq_getElem hlt⟩
   obtain⟨q,hq⟩: ∃ q,Q[i]? =some q:=⟨_,List.getElem?_eq_getElem (by omega)⟩
   have hpm:=List.mem_of_getElem? hp
   have hqm:=List.mem_of_getElem? hq
   rw[list_step hp hq]at hinv
   have e1:((mkS p.name).toList==(mkS q.name).toList)=decide (p.name=q.name):=str_mk _ _
   by_cases h1:p.name=q.name
   ·rw[decide_eq_true h1]at e1
    by_cases h2:p.v=q.v
    ·have ev:decide (p.v=q.v)=true:=decide_eq_true h2
     by_cases h3:p.sum=q.sum
     ·have e3:(p.sum==q.sum)=true:=by rw[h3];exact beq_self_eq_true _
      ((conv=>whnf);repeat(any_goals((first|(refine IdxA.pin hP rfl i p rfl hp ?_;intro b1 o1 c1 pa1 pc1 hp1 hl1 hpl1 hpr1 hcl1 hn1 hv1;obtain⟨_,_,ec1,s1,_,_⟩:=(id hp1);have hs1: ∀ k u,(strV p.sum)[k]? =some u→hcell H ⟨b1,o1+5+k,none⟩=some u:=fun k u hu=>(by rw[Nat.add_assoc];exact hcl1 (5+k) u (pin_sum ec1 k u hu)))|(refine IdxA.pin hQ hm i q rfl hq ?_;intro b2 o2 c2 pa2 pc2 hp2 hl2 hpl2 hpr2 hcl2 hn2 hv2;obtain⟨_,_,ec2,s2,_,_⟩:=(id hp2);have hs2: ∀ k u,(strV q.sum)[k]? =some u→hcell H ⟨b2,o2+5+k,none⟩=some u:=fun k u hu=>(by rw[Nat.add_assoc];exact hcl2 (5+k) u (pin_sum ec2 k u hu)))|((with_reducible apply SemH.load_ver);(focus((exact hv1)));(focus((exact hx1.trans (by exact Vc.xt))));(focus((conv=>whnf))))|((with_reducible apply SemH.load_ver);(focus((exact hv2)));(focus((exact hx1.trans (by exact Vc.xt))));(focus((conv=>whnf))))|(refine(hversion_any p.v q.v (hPl p hpm) (hQl q hqm) _ _ _ (verO_of hpl1 (hpr1.ext (hx1.trans (by exact Vc.xt)))) (verO_of hpl2 (hpr2.ext (hx1.trans (by exact Vc.xt))))).mono ?_;rintro _ H4 ⟨rfl,hx4⟩;have hz4:=hx4.size;rw[ev])|((with_reducible apply SemH.load_key2);(focus((exact s1)));(focus((exact hs1)));(focus((exact hx1.trans (by exact Vc.xt))));(focus((conv=>whnf))))|((with_reducible apply SemH.load_key2);(focus((exact s2)));(focus((exact hs2)));(focus((exact hx1.trans (by exact Vc.xt))));(focus((conv=>whnf))))|((with_reducible apply PureH.neq_bytes);(focus(rfl));(focus(rfl));(focus(rfl));(focus(rfl));(focus(kernel_rfl));(focus((exact s1)));(focus((exact s2)));(focus((rw[e3];(conv=>whnf)))))|refine Vc.stp ?_)<;>(intros;(conv=>whnf)))))
      exact⟨i+1,⟨rfl,trivial⟩,⟨by omega,by rw[hinv,decide_eq_true ((pin_same p q).2 ⟨h1,h2,h3⟩),Bool.true_and],hx1.trans (by exact Vc.xt)⟩,by omega⟩
     ·have e3:(p.sum==q.sum)=false:=by simpa using h3
      ((conv=>whnf);repeat(any_goals((first|(refine IdxA.pin hP rfl i p rfl hp ?_;intro b1 o1 c1 pa1 pc1 hp1 hl1 hpl1 hpr1 hcl1 hn1 hv1;obtain⟨_,_,ec1,s1,_,_⟩:=(id hp1);have hs1: ∀ k u,(strV p.sum)[k]? =some u→hcell H ⟨b1,o1+5+k,none⟩=some u:=fun k u hu=>(by rw[Nat.add_assoc];exact hcl1 (5+k) u (pin_sum ec1 k u hu)))|(refine IdxA.pin hQ hm i q rfl hq ?_;intro b2 o2 c2 pa2 pc2 hp2 hl2 hpl2 hpr2 hcl2 hn2 hv2;obtain⟨_,_,ec2,s2,_,_⟩:=(id hp2);have hs2: ∀ k u,(strV q.sum)[k]? =some u→hcell H ⟨b2,o2+5+k,none⟩=some u:=fun k u hu=>(by rw[Nat.add_assoc];exact hcl2 (5+k) u (pin_sum ec2 k u hu)))|((with_reducible apply SemH.load_ver);(focus((exact hv1)));(focus((exact hx1.trans (by exact Vc.xt))));(focus((conv=>whnf))))|((with_reducible apply SemH.load_ver);(focus((exact hv2)));(focus((exact hx1.trans (by exact Vc.xt))));(focus((conv=>whnf))))|(refine(hversion_any p.v q.v (hPl p hpm) (hQl q hqm) _ _ _ (verO_of hpl1 (hpr1.ext (hx1.trans (by exact Vc.xt)))) (verO_of hpl2 (hpr2.ext (hx1.trans (by exact Vc.xt))))).mono ?_;rintro _ H4 ⟨rfl,hx4⟩;have hz4:=hx4.size;rw[ev])|((with_reducible apply SemH.load_key2);(focus((exact s1)));(focus((exact hs1)));(focus((exact hx1.trans (by exact Vc.xt))));(focus((conv=>whnf))))|((with_reducible apply SemH.load_key2);(focus((exact s2)));(focus((exact hs2)));(focus((exact hx1.trans (by exact Vc.xt))));(focus((conv=>whnf))))|((with_reducible apply PureH.neq_bytes);(focus(rfl));(focus(rfl));(focus(rfl));(focus(rfl));(focus(kernel_rfl));(focus((exact s1)));(focus((exact s2)));(focus((rw[e3];(conv=>whnf)))))|refine Vc.stp ?_)<;>(intros;(conv=>whnf)))))
      exact⟨by rw[hinv,decide_eq_false (fun h=>h3 (by rw[h])),Bool.false_and];rfl,hx1.trans (by exact Vc.xt)⟩
    ·have ev:decide (p.v=q.v)=false:=decide_eq_false h2
     ((conv=>whnf);repeat(any_goals((first|(refine IdxA.pin hP rfl i p rfl hp ?_;intro b1 o1 c1 pa1 pc1 hp1 hl1 hpl1 hpr1 hcl1 hn1 hv1;obtain⟨_,_,ec1,s1,_,_⟩:=(id hp1);have hs1: ∀ k u,(strV p.sum)[k]? =some u→hcell H ⟨b1,o1+5+k,none⟩=some u:=fun k u hu=>(by rw[Nat.add_assoc];exact hcl1 (5+k) u (pin_sum ec1 k u hu)))|(refine IdxA.pin hQ hm i q rfl hq ?_;intro b2 o2 c2 pa2 pc2 hp2 hl2 hpl2 hpr2 hcl2 hn2 hv2;obtain⟨_,_,ec2,s2,_,_⟩:=(id hp2);have hs2: ∀ k u,(strV q.sum)[k]? =some u→hcell H ⟨b2,o2+5+k,none⟩=some u:=fun k u hu=>(by rw[Nat.add_assoc];exact hcl2 (5+k) u (pin_sum ec2 k u hu)))|((with_reducible apply SemH.load_ver);(focus((exact hv1)));(focus((exact hx1.trans (by exact Vc.xt))));(focus((conv=>whnf))))|((with_reducible apply SemH.load_ver);(focus((exact hv2)));(focus((exact hx1.trans (by exact Vc.xt))));(focus((conv=>whnf))))|(refine(hversion_any p.v q.v (hPl p hpm) (hQl q hqm) _ _ _ (verO_of hpl1 (hpr1.ext (hx1.trans (by exact Vc.xt)))) (verO_of hpl2 (hpr2.ext (hx1.trans (by exact Vc.xt))))).mono ?_;rintro _ H4 ⟨rfl,hx4⟩;have hz4:=hx4.size;rw[ev])|((with_reducible apply SemH.load_key2);(focus((exact s1)));(focus((exact hs1)));(focus((exact hx1.trans (by exact Vc.xt))));(focus((conv=>whnf))))|((with_reducible apply SemH.load_key2);(focus((exact s2)));(focus((exact hs2)));(focus((exact hx1.trans (by exact Vc.xt))));(focus((conv=>whnf))))|((with_reducible apply PureH.neq_bytes);(focus(rfl));(focus(rfl));(focus(rfl));(focus(rfl));(focus(kernel_rfl));(focus((exact s1)));(focus((exact s2)));(focus((rw[e3];(conv=>whnf)))))|refine Vc.stp ?_)<;>(intros;(conv=>whnf)))))
     exact⟨by rw[hinv,decide_eq_false (fun h=>h2 (by rw[h])),Bool.false_and];rfl,hx1.trans (by exact Vc.xt)⟩
   ·rw[decide_eq_false h1]at e1
    ((conv=>whnf);repeat(any_goals((first|(refine IdxA.pin hP rfl i p rfl hp ?_;intro b1 o1 c1 pa1 pc1 hp1 hl1 hpl1 hpr1 hcl1 hn1 hv1;obtain⟨_,_,ec1,s1,_,_⟩:=(id hp1);have hs1: ∀ k u,(strV p.sum)[k]? =some u→hcell H ⟨b1,o1+5+k,none⟩=some u:=fun k u hu=>(by rw[Nat.add_assoc];exact hcl1 (5+k) u (pin_sum ec1 k u hu)))|(refine IdxA.pin hQ hm i q rfl hq ?_;intro b2 o2 c2 pa2 pc2 hp2 hl2 hpl2 hpr2 hcl2 hn2 hv2;obtain⟨_,_,ec2,s2,_,_⟩:=(id hp2);have hs2: ∀ k u,(strV q.sum)[k]? =some u→hcell H ⟨b2,o2+5+k,none⟩=some u:=fun k u hu=>(by rw[Nat.add_assoc];exact hcl2 (5+k) u (pin_sum ec2 k u hu)))|((with_reducible apply SemH.load_ver);(focus((exact hv1)));(focus((exact hx1.trans (by exact Vc.xt))));(focus((conv=>whnf))))|((with_reducible apply SemH.load_ver);(focus((exact hv2)));(focus((exact hx1.trans (by exact Vc.xt))));(focus((conv=>whnf))))|(refine(hversion_any p.v q.v (hPl p hpm) (hQl q hqm) _ _ _ (verO_of hpl1 (hpr1.ext (hx1.trans (by exact Vc.xt)))) (verO_of hpl2 (hpr2.ext (hx1.trans (by exact Vc.xt))))).mono ?_;rintro _ H4 ⟨rfl,hx4⟩;have hz4:=hx4.size;rw[ev])|((with_reducible apply SemH.load_key2);(focus((exact s1)));(focus((exact hs1)));(focus((exact hx1.trans (by exact Vc.xt))));(focus((conv=>whnf))))|((with_reducible apply SemH.load_key2);(focus((exact s2)));(focus((exact hs2)));(focus((exact hx1.trans (by exact Vc.xt))));(focus((conv=>whnf))))|((with_reducible apply PureH.neq_bytes);(focus(rfl));(focus(rfl));(focus(rfl));(focus(rfl));(focus(kernel_rfl));(focus((exact s1)));(focus((exact s2)));(focus((rw[e3];(conv=>whnf)))))|refine Vc.stp ?_)<;>(intros;(conv=>whnf)))))
    exact⟨by rw[hinv,decide_eq_false (fun h=>h1 (by rw[h])),Bool.false_and];rfl,hx1.trans (by exact Vc.xt)⟩
  ·rw[List.drop_of_length_le (by omega),List.drop_of_length_le (by omega)]at hinv
   ((conv=>whnf);repeat(any_goals((first|refine Vc.stp ?_)<;>(intros;(conv=>whnf)))))
   exact⟨by rw[hinv];rfl,hx1⟩
 ·have e:Z=false:=by rw[←hZ];exact decide_eq_false fun h=>hnm (by rw[h];exact hm)
  rw[e]
  ((conv=>whnf);repeat(any_goals((first|refine Vc.stp ?_)<;>(intros;(conv=>whnf)))))
  exact⟨rfl,by exact Vc.xt⟩
end Go.Proofs.YtjdieklgoepdjaaGreatDoor
namespace Go.Slv
open Go.Scr Go.Tre
def knL:List RowI:=[⟨0,0,[7],0,0⟩,⟨1,1,[],0,0⟩,⟨1,2,[],0,0⟩]
def knR (s1 s2 s3:Txt×Int):List RowP:=[⟨[97],⟨1,0,0,[]⟩,s1.1,s1.2,[needI 7]⟩,⟨[98],⟨1,1,0,[]⟩,s2.1,s2.2,[]⟩,⟨[98],⟨2,0,0,[]⟩,s3.1,s3.2,[]⟩]
def knP (s1 s2:Txt×Int):List PinP:=[⟨[97],⟨1,0,0,[]⟩,s1.1⟩,⟨[98],⟨1,1,0,[]⟩,s2.1⟩]
theorem kn_made (S:List (Txt×Int)) (h:S.length=3): ∃ s1 s2 s3,madeF (knL.zip S)=knR s1 s2 s3:=by
 match S,h with
 |[a,b,c],_=>exact⟨a,b,c,by kernel_rfl⟩
def outB (R:List RowP) (N:List NeedP) (r:RowP):Bool:=R.any fun q=>N.any (fun n=>n.name==q.name)&&R.all (fun x=> !(x.name==q.name) || decide (x.v=q.v))&&q.needs.any fun n=>n.name==r.name&& !hasP n.span r.v
theorem out_no {R:List RowP} (ha:Apart R) {N:List NeedP} {d:Cho} (hd:Sol R N d) {k:Txt} {j:Nat} {r:RowP} (hk:d k=some j) (hr:R[j]? =some r) (h:outB R N r=true):False:=by
 unfold outB at h
 simp only[List.any_eq_true,List.all_eq_true,Bool.and_eq_true,Bool.or_eq_true,Bool.not_eq_true',beq_iff_eq,beq_eq_false_iff_ne,decide_eq_true_eq]at h
 obtain⟨q,hq,⟨⟨n0,hn0,e0⟩,hone⟩,n,hn,e1,e2⟩:=h
 obtain⟨i,x,g1,g2,_⟩:=hd.root n0 hn0
 obtain⟨x',g3,g4⟩:=hd.row _ _ g1
 rw[g2]at g3;cases g3
 have hxq:x=q:=row_one ha (List.mem_of_getElem? g2) hq (g4.trans e0) ((hone x (List.mem_of_getElem? g2)).resolve_left fun hh=>hh (g4.trans e0))
 subst hxq
 obtain⟨j',s,g5,g6,g7⟩:=hd.all _ _ _ g1 g2 n hn
 obtain⟨s',g8,g9⟩:=hd.row _ _ hk
 rw[hr]at g8;cases g8
 rw[e1,g9,hk]at g5
 cases g5
 rw[hr]at g6;cases g6
 rw[g7]at e2;cases e2
def topC (R:List RowP) (N:List NeedP) (l:List Nat):Bool:=
 (askedL R N (stackOf R l)).all (fun n=>((stackOf R l).map (·.1)).contains n.name)&&
 R.all (fun r=>match choS (stackOf R l) r.name with
  |some i=>match R[i]? with
   |some s=>decide (s.v=r.v) || decide (cmpV s.v r.v=1) || outB R N r
   |none=>false
  |none=> !(N.any fun n=>n.name==r.name)&& !(R.any fun q=>q.needs.any fun n=>n.name==r.name))
theorem best_lookC {R:List RowP} {N:List NeedP} {l:List Nat} (ha:apartB R=true) (h1:goodB R N l []=true) (h2:topC R N l=true):Solves R N (some (pinsOf R (namesF R) (choS (stackOf R l)))):=by
 have hA:=apartB_apart ha
 have hg:=goodB_good (Good.nil R N noF) h1
 rw[List.nil_append]at hg
 unfold topC at h2
 rw[Bool.and_eq_true,List.all_eq_true,List.all_eq_true]at h2
 obtain⟨k1,k2⟩:=h2
 have hs:Sol R N (choS (stackOf R l)):=hg.sol fun n hn=>by simpa using k1 n hn
 refine solves_best hA (names_namesF R) ⟨hs,fun d hd=>ahead_dom fun k hk=> ?_⟩
 obtain⟨r0,hr0,hk0⟩:=((names_namesF R).mem k).1 hk
 cases ed:d k with
 |none=>
  cases ec:choS (stackOf R l) k with
  |none=>exact .inl rfl
  |some i=>exact .inr trivial
 |some j=>
  obtain⟨s,g1,g2⟩:=hd.row k j ed
  have:=k2 s (List.mem_of_getElem? g1)
  rw[g2]at this
  cases ec:choS (stackOf R l) k with
  |none=>
   rw[ec]at this
   dsimp only at this
   simp only[Bool.and_eq_true,Bool.not_eq_true',List.any_eq_false,beq_iff_eq]at this
   exfalso
   rcases reach_need (hd.reach k j ed)with ⟨n,hn,e⟩|⟨r,hr,n,hn,e⟩
   ·exact this.1 n hn e
   ·exact this.2 r hr (List.any_eq_true.2 ⟨n,hn,by simpa using e⟩)
  |some i=>
   rw[ec]at this
   dsimp only at this
   obtain⟨s',g3,g4⟩:=hs.row k i ec
   rw[g3]at this
   dsimp only at this
   rw[Bool.or_eq_true,Bool.or_eq_true,decide_eq_true_eq,decide_eq_true_eq]at this
   rcases this with (e|e)|e
   ·left
    rw[hA i j s' s g3 g1 (g4.trans g2.symm) e]
   ·exact .inr ⟨s',s,g3,g1,e⟩
   ·exact(out_no hA hd ed g1 e).elim
theorem kn_best (s1 s2 s3:Txt×Int):Solves (knR s1 s2 s3) (needsM [0]) (some (knP s1 s2)):=by
 have h1:apartB (knR s1 s2 s3)=true:=by kernel_rfl
 have h2:goodB (knR s1 s2 s3) (needsM [0]) [0,1] []=true:=by kernel_rfl
 have h3:topC (knR s1 s2 s3) (needsM [0]) [0,1]=true:=by kernel_rfl
 have h:=best_lookC h1 h2 h3
 have e:pinsOf (knR s1 s2 s3) (namesF (knR s1 s2 s3)) (choS (stackOf (knR s1 s2 s3) [0,1]))=knP s1 s2:=by kernel_rfl
 rw[e]at h
 exact h
theorem kn_none (s1 s2 s3:Txt×Int):Solves (knR s1 s2 s3) (needsM [3]) none:=
 none_look (n:=needI 3) (l:=[]) (by kernel_rfl) (by rw[show needsM [3]=[needI 3]from rfl];exact List.mem_singleton.2 rfl) (by kernel_rfl)
theorem kn_unfit (s1 s2 s3:Txt×Int): ¬FitP (knR s1 s2 s3) (needsM [0]) ((knP s1 s2).take 1):=fun h=>by
 obtain⟨p,hp,h1,_⟩:=h.all _ (List.mem_cons_self) (List.mem_cons_self) (needI 7) (List.mem_singleton.2 rfl)
 have hp:p=⟨[97],⟨1,0,0,[]⟩,s1.1⟩:=List.mem_singleton.1 hp
 subst hp
 exact absurd h1 (show ¬([97]:Txt)=(needI 7).name by decide)
theorem kn_better (s1 s2:Txt×Int):betterP (knP s1 s2) ((knP s1 s2).take 1)=true:=by kernel_rfl
def pickOne (R:List RowP) (x:Txt×Nat):Option PinP:=((candsF R x.1 R.length)[x.2 % ((candsF R x.1 R.length).length+1)]?).bind fun i=>R[i]?.map pinR
def pickF (R:List RowP) (L:List Nat) (i:Nat):List PinP:=(((namesF R).zip L).take i).filterMap (pickOne R)
theorem pick_row {R:List RowP} {x:Txt×Nat} {p:PinP} (h:pickOne R x=some p): ∃ r∈R,pinR r=p∧r.name=x.1:=by
 unfold pickOne at h
 obtain⟨i,hi,h2⟩:=Option.bind_eq_some_iff.1 h
 obtain⟨r,hr,e⟩:=Option.map_eq_some_iff.1 h2
 obtain⟨_,s,hs,hk⟩:=(cands_mem R x.1 _ i).1 (List.mem_of_getElem? hi)
 rw[hr]at hs;cases hs
 exact⟨r,List.mem_of_getElem? hr,e,hk⟩
theorem pick_all {R:List RowP} {L:List Nat} {i:Nat} {p:PinP} (h:p∈pickF R L i): ∃ r∈R,pinR r=p:=by
 obtain⟨x,_,hx⟩:=List.mem_filterMap.1 h
 obtain⟨r,h1,h2,_⟩:=pick_row hx
 exact⟨r,h1,h2⟩
theorem pick_len (R:List RowP) (L:List Nat) (i:Nat):(pickF R L i).length≤L.length:=by
 unfold pickF
 have h1:=List.length_filterMap_le (pickOne R) (((namesF R).zip L).take i)
 rw[List.length_take,List.length_zip]at h1
 omega
theorem pickF_snoc {R:List RowP} {L:List Nat} {i:Nat} {k:Txt} {u:Nat} (hk:(namesF R)[i]? =some k) (hu:L[i]? =some u):pickF R L (i+1)=pickF R L i++(pickOne R (k,u)).toList:=by
 unfold pickF
 have hz:((namesF R).zip L)[i]? =some (k,u):=by rw[List.getElem?_zip_eq_some];exact⟨hk,hu⟩
 rw[List.take_add_one,hz,List.filterMap_append]
 cases e:pickOne R (k,u)<;>simp[e]
theorem pickF_all {R:List RowP} {L:List Nat} {i:Nat} (h:(namesF R).length≤i∨L.length≤i):pickF R L i=pickF R L L.length:=by
 unfold pickF
 rw[List.take_of_length_le (by rw[List.length_zip];omega),List.take_of_length_le (by rw[List.length_zip];omega)]
theorem better_law {R:List RowP} (ha:Apart R) {X Y:List PinP} (hX: ∀ p∈X,∃ r∈R,pinR r=p) (hY: ∀ p∈Y,∃ r∈R,pinR r=p) (h1:betterP X Y=false) (h2:betterP Y X=false):X=Y:=pins_key ha hX hY (better_eq h1 h2)
end Go.Slv
namespace Go.Proofs.YtjdieklgoepdjaaGreatDoor
open Go Go.Vc Go.Scr Go.Slv
structure PqS where
 i:Nat
 a:Option Addr
 cap:Nat
set_option maxHeartbeats 4000000 in
theorem picked_any (R:List RowP) (ha:Apart R) (hRB:RowsB R) (L:List Nat) (hL: ∀ x∈L,x<256) (ra la:Option Addr) (rn rc ln lc:Nat) (H:Heap) (hR:RowE rowE H ra R) (hrn:R.length=rn) (hrl:rn≤200) (hl:Row H la (intsV .u8 L)) (hln:L.length=ln) (hll:ln≤100):
  CallH Tryz.prog 38 [.slice ra rn rc,.slice la ln lc] H fun v H'=>(∃ a c,v= .slice a (pickF R L L.length).length c∧RowE pinE H' a (pickF R L L.length)∧(pickF R L L.length).length≤c)∧Ext H H':=by
 refine Vc.CallH.body Tryz.func38 Tryz.call38 rfl (by decide+kernel) rfl ?_
 obtain⟨K,hK⟩: ∃ K,namesF R=K:=⟨_,rfl⟩
 have hKl:=namesF_len R
 have hns:=rnames_any R ra rn rc H hR hrn (by omega)
 rw[hK]at hns hKl
 ((conv=>whnf);repeat(any_goals((first|(refine hns.mono ?_;rintro _ H1 ⟨⟨ka,kc,rfl,hk1⟩,hx1⟩;have hz1:=hx1.size)|(first|(with_reducible refine Vc.DrawH.lin (id:=9) mixed ?_)|(with_reducible refine Vc.DrawL.split (es:=[]) 9 13 (by decide) (by decide) (by decide) ?_ ?_)|(with_reducible refine Vc.DrawL.held (es:=[(9,13)]) [0,1,2,3,4,5,6,7,8,9,10,11,12,13,14,15] [] (by decide+kernel) ?_)|(with_reducible refine Vc.DrawL.held (es:=[(13,9)]) [0,1,2,3,4,5,6,7,8,13,9,10,11,12,14,15] [(13,[4,8])] (by decide+kernel) ?_))|refine Vc.stp ?_)<;>(intros;(conv=>whnf)))))
 refine LoopH.intro (fun(s:PqS)=>[(7,.int .i64 s.i),(5,.slice s.a (pickF R L s.i).length s.cap)]) (fun s H'=>s.i≤K.length∧s.i≤L.length∧OwnE (constE pinE H) 37 H' H1.size 52 s.a (pickF R L s.i) s.cap∧Ext H1 H') (fun s=>K.length-s.i) ⟨0,none,0⟩ ⟨rfl,rfl,trivial⟩ ⟨Nat.zero_le _,Nat.zero_le _,OwnE.nil _ _ _ _ _,Ext.refl _⟩ ?_
 rintro⟨i,oa,oc⟩ H2 ⟨hi,hi2,ho,hx2⟩
 dsimp only at hi hi2 ho ⊢
 have hz2:=hx2.size
 have hpl:=pick_len R L i
 by_cases hlt:i<K.length∧i<L.length
 ·obtain⟨k,hk⟩: ∃ k,K[i]? =some k:=⟨_,List.getElem?_eq_getElem hlt.1⟩
  obtain⟨u,hu⟩: ∃ u,L[i]? =some u:=⟨_,List.getElem?_eq_getElem hlt.2⟩
  have hu8:=hL u (List.mem_of_getElem? hu)
  have hsn:=pickF_snoc (by rw[hK];exact hk) hu
  have hlt2:=hlt.2
  have hlt1:=hlt.1
  obtain⟨P,hP⟩: ∃ P,pickF R L i=P:=⟨_,rfl⟩
  rw[hP]at ho hsn hpl ⊢
  obtain⟨V,hV⟩: ∃ V,versF R k rn=V:=⟨_,rfl⟩
  have hvr:=fun H' (hr:RowE rowE H' ra R)=>rversions_any R ha k (rows_ver hRB) ra rn rc H' hr hrn (by omega)
  rw[hV]at hvr
  have hVl:=versF_len R k rn
  rw[hV]at hVl
  have hVc:(candsF R k rn).length=V.length:=by rw[←hV];unfold versF;rw[List.length_map]
  obtain⟨q,hq⟩: ∃ q,u % (V.length+1)=q:=⟨_,rfl⟩
  have hqi:(u:Int) % ((V.length:Int)+1)=(q:Int):=by rw[←hq];push_cast;rfl
  have hqV:q≤V.length:=by rw[←hq];have:=Nat.mod_lt u (show 0<V.length+1 by omega);omega
  have hone:pickOne R (k,u)=((candsF R k rn)[q]?).bind fun i=>R[i]?.map pinR:=by
   unfold pickOne
   rw[hrn,hVc,hq]
  by_cases hqv:q<V.length
  ·obtain⟨v,hv⟩: ∃ v,V[q]? =some v:=⟨_,List.getElem?_eq_getElem hqv⟩
   obtain⟨ri,r,hci,hri,hrk,hrv⟩:=vers_at (by rw[hV];exact hv)
   subst hrk
   subst hrv
   have hr:=List.mem_of_getElem? hri
   have hvB:=rows_ver hRB r hr
   have hidx:idxR R r.name r.v=some ri:=idx_of ha hri
   have hfind:=fun H' (k:Ext H H') y hy=>rfind_any R r.name r.v hvB (rows_ver hRB) ra rn rc y H H' k hR hrn (by omega) hy
   rw[hidx]at hfind
   have hone':pickOne R (r.name,u)=some (pinR r):=by rw[hone,hci];show(R[ri]?).map pinR=_;rw[hri];rfl
   rw[hone']at hsn
   have hsn:pickF R L (i+1)=P++[pinR r]:=hsn
   ((conv=>whnf);repeat(any_goals((first|(refine IdxA.strv (hk1.row.ext (hx2.trans (by exact Vc.xt))) rfl i _ rfl hk ?_;intro _ _ _ _ _)|(refine IdxA.intN (hl.ext (hx1.trans (hx2.trans (by exact Vc.xt)))) hln i u rfl hu ?_;intro _ _ _)|(refine(hvr _ (hR.ext row_ok (hx1.trans hx2))).mono ?_;rintro _ H3 ⟨⟨va,vc,rfl,hov⟩,hx3⟩;have hz3:=hx3.size)|(refine RemH.pos (by omega) ?_;rw[hqi])|(refine IdxA.el ver_ok (by decide) hov.row rfl q r.v rfl hv ?_;intro b3 o3 c3 hcX hcx;obtain⟨xa,xc,ex,hxl,hxr⟩:=(id hcX);have hxv: ∀ (k:Nat) (u:Value),([.int .i64 r.v.ma,.int .i64 r.v.mi,.int .i64 r.v.pa,.slice xa r.v.pre.length xc]:List Value)[k]? =some u→hcell H3 ⟨b3,o3+k,none⟩=some u:=fun k u hu=>hcx k u (by rw[ex];exact hu))|((with_reducible apply SemH.load_ver);(focus((exact hxv)));(focus((exact Vc.xt)));(focus((conv=>whnf))))|(refine(hfind _ (hx1.trans (hx2.trans (hx3.trans (by exact Vc.xt)))) _ (verO_of hxl (hxr.ext (by exact Vc.xt)))).mono ?_;rintro _ H6 ⟨⟨r2,cr,hr2,rfl,hcr⟩,hx6⟩;have hz6:=hx6.size;rw[hri]at hr2;have e7:=Option.some.inj hr2;subst e7)|(rename_i Hq zq bq xq;(first|refine DoH.store_list bq rfl (by rw[row_ok.len hcr];rfl) (by rw[row_ok.len hcr];rfl) (row_ok.plain hcr) ?_|refine DoH.store_list (bq.ext hx6) rfl (by rw[row_ok.len hcr];rfl) (by rw[row_ok.len hcr];rfl) (row_ok.plain hcr) ?_);intro H7 z7 b7 k7;obtain⟨sa,sc,ma,mc,er,r32,hsl,hsr,hnl7,hnr7⟩:=(id hcr);have hrn7:=blk_list b7 0 0 (Value.string (mkS r.name)) (by rw[er];rfl);have hrv7:=(fun k u hu=>blk_list b7 1 k u (by rw[Nat.add_comm];exact row_ver er k u hu));have hrs7:=fun k u hu=>blk_list b7 5 k u (row_sum er k u hu);have hx37:Ext H3 H7:=(by first|exact(xq.trans hx6).but k7 (Nat.le_refl _)|exact(hx6.trans xq).but k7 (by omega)))|((with_reducible apply SemH.load_ver);(focus((exact hrv7)));(focus((exact Ext.refl _)));(focus((conv=>whnf))))|((with_reducible apply SemH.load_key2);(focus((exact r32)));(focus((exact hrs7)));(focus((exact Ext.refl _)));(focus((conv=>whnf))))|(show Go.Vc.PureH _ _ _;refine PureH.build3 _ (pin_built r32) ?_)|(refine SemH.pinLit _ (pinL_len r32) ?_;intro H8 z8 b8 x8)|(refine Vc.StillsH.load rfl rfl rfl rfl rfl rfl (by first|exact SemH.load_ver hxv (by exact Vc.xt) rfl|(exact SemH.load_old rfl (by assumption) (by exact Vc.xt) rfl)) ?_)|(first|(with_reducible refine Vc.DrawH.lin (id:=9) mixed ?_)|(with_reducible refine Vc.DrawL.split (es:=[]) 9 13 (by decide) (by decide) (by decide) ?_ ?_)|(with_reducible refine Vc.DrawL.held (es:=[(9,13)]) [0,1,2,3,4,5,6,7,8,9,10,11,12,13,14,15] [] (by decide+kernel) ?_)|(with_reducible refine Vc.DrawL.held (es:=[(13,9)]) [0,1,2,3,4,5,6,7,8,13,9,10,11,12,14,15] [(13,[4,8])] (by decide+kernel) ?_))|refine Vc.stp ?_)<;>(intros;(conv=>whnf)))))
   all_goals
    have hx28:Ext H2 H8:=hx3.trans (hx37.trans x8)
    have hz28:=hx28.size
    have hpE:constE pinE H H8 (pinR r) (pinL r.name r.v r.sum sa sc):=⟨sa,sc,rfl,r32,hsl,hsr⟩
    have ho8:=ho.ext (const_ok pin_ok H).ok hx28
    refine NextH.appE (const_ok pin_ok H) rfl ⟨_,rfl,fun _ h=>by cases h⟩ rfl rfl rfl rfl (by decide) id ho8 rfl (Blk.row b8) (LstV.one hpE) rfl (by omega) (by omega) ?_
    intro a9 c9 H9 ho9 hw9 hf9
    have hx19:Ext H1 H9:=ext_wr2 (n:=H8.size) (hx2.trans hx28) (fun p hp=>ho8.block p hp) hw9
    have hl9:(P++[pinR r]).length=P.length+1:=by simp
    ((conv=>whnf);repeat(any_goals((first|refine Vc.stp ?_)<;>(intros;(conv=>whnf)))))
    exact⟨⟨i+1,a9,c9⟩,⟨rfl,by(show Value.slice _ _ _=Value.slice _ _ _;rw[hsn,hl9]),trivial⟩,⟨hlt1,hlt2,by(dsimp only;rw[hsn];exact ho9),hx19⟩,by show K.length-(i+1)<K.length-i;omega⟩
  ·have hqe:q=V.length:=by omega
   have hone':pickOne R (k,u)=none:=by rw[hone,List.getElem?_eq_none (by omega)];rfl
   rw[hone']at hsn
   have hsn:pickF R L (i+1)=P:=by rw[hsn];simp
   ((conv=>whnf);repeat(any_goals((first|(refine IdxA.strv (hk1.row.ext (hx2.trans (by exact Vc.xt))) rfl i _ rfl hk ?_;intro _ _ _ _ _)|(refine IdxA.intN (hl.ext (hx1.trans (hx2.trans (by exact Vc.xt)))) hln i u rfl hu ?_;intro _ _ _)|(refine(hvr _ (hR.ext row_ok (hx1.trans hx2))).mono ?_;rintro _ H3 ⟨⟨va,vc,rfl,hov⟩,hx3⟩;have hz3:=hx3.size)|(refine RemH.pos (by omega) ?_;rw[hqi])|(first|(with_reducible refine Vc.DrawH.lin (id:=9) mixed ?_)|(with_reducible refine Vc.DrawL.split (es:=[]) 9 13 (by decide) (by decide) (by decide) ?_ ?_)|(with_reducible refine Vc.DrawL.held (es:=[(9,13)]) [0,1,2,3,4,5,6,7,8,9,10,11,12,13,14,15] [] (by decide+kernel) ?_)|(with_reducible refine Vc.DrawL.held (es:=[(13,9)]) [0,1,2,3,4,5,6,7,8,13,9,10,11,12,14,15] [(13,[4,8])] (by decide+kernel) ?_))|refine Vc.stp ?_)<;>(intros;(conv=>whnf)))))
   exact⟨⟨i+1,oa,oc⟩,⟨rfl,by(show Value.slice _ _ _=Value.slice _ _ _;rw[hsn]),trivial⟩,⟨hlt1,hlt2,by dsimp only;rw[hsn];exact ho.ext (const_ok pin_ok H).ok hx3,hx2.trans hx3⟩,by show K.length-(i+1)<K.length-i;omega⟩
 ·have hal:pickF R L i=pickF R L L.length:=pickF_all (by rw[hK];omega)
  rw[hal]at ho ⊢
  by_cases hc:i<K.length
  ·have hc2: ¬i<L.length:=fun h=>hlt ⟨hc,h⟩
   ((conv=>whnf);repeat(any_goals((first|refine Vc.stp ?_)<;>(intros;(conv=>whnf)))))
   exact⟨⟨oa,oc,rfl,RowE.unconst pin_ok (hx1.trans hx2) ho.row,ho.cap_le⟩,hx1.trans hx2⟩
  ·((conv=>whnf);repeat(any_goals((first|refine Vc.stp ?_)<;>(intros;(conv=>whnf)))))
   exact⟨⟨oa,oc,rfl,RowE.unconst pin_ok (hx1.trans hx2) ho.row,ho.cap_le⟩,hx1.trans hx2⟩
end Go.Proofs.YtjdieklgoepdjaaGreatDoor
namespace Go.Proofs.YtjdieklgoepdjaaGreatDoor
open Go Go.Vc Go.Scr Go.Slv
theorem solve_small {R:List RowP} {N:List NeedP} (hMok:MadeOk R) (hRl:R.length≤19) (hNl:N.length≤1000) (hNs: ∀ n∈N,SpnB n.span) (ra:Option Addr) (rc:Nat) (na:Option Addr) (nc:Nat) (budget:Int) (H:Heap) (hg:Glb H) (hr:RowE rowE H ra R) (hn:RowE needE H na N):
  CallH Tryz.prog 35 [.slice ra R.length rc,.slice na N.length nc,.int .i64 budget] H fun v H'=>SolveR R N budget H' v∧Ext H H':=
 solve_any R N hMok.apart (made_bounds hMok) (by omega) hNl hNs (fun k=>by have:=ofName_len R k R.length;omega) ra rc na nc budget H hg hr hn
theorem solveR_big {R:List RowP} {N:List NeedP} {H:Heap} {v:Value} (hMok:MadeOk R) (hRl:R.length≤40) (h:SolveR R N 1048576 H v):(∃ P a cap,v= .tuple #[.slice a (List.length P) cap,.int .i64 0]∧P.length≤cap∧Solves R N (some P)∧RowE pinE H a P)∨(v= .tuple #[.slice none 0 0,.int .i64 70]∧Solves R N none):=by
 rcases h with ⟨P,a,cap,e,h1,_,h2,h3⟩|⟨e,_,h⟩|⟨e,h⟩
 ·exact .inl ⟨P,a,cap,e,h1,h2,h3⟩
 ·exact .inr ⟨e,h⟩
 ·have:=made_names hMok
  exact absurd ⟨hRl,by omega,by decide⟩ (h (by decide))
theorem solve_has {R:List RowP} {N:List NeedP} {H:Heap} {v:Value} (hMok:MadeOk R) (hRl:R.length≤40) {P:List PinP} (hP:Solves R N (some P)) (h:SolveR R N 1048576 H v): ∃ a cap,v= .tuple #[.slice a (List.length P) cap,.int .i64 0]∧P.length≤cap∧RowE pinE H a P:=by
 rcases solveR_big hMok hRl h with ⟨Q,a,cap,e,h1,h2,h3⟩|⟨e,h2⟩
 ·have:=solves_one h2 hP
  cases this
  exact⟨a,cap,e,h1,h3⟩
 ·have:=solves_one h2 hP
  cases this
theorem solve_hasnt {R:List RowP} {N:List NeedP} {H:Heap} {v:Value} (hMok:MadeOk R) (hRl:R.length≤40) (hP:Solves R N none) (h:SolveR R N 1048576 H v):v= .tuple #[.slice none 0 0,.int .i64 70]:=by
 rcases solveR_big hMok hRl h with ⟨Q,a,cap,e,h1,h2,h3⟩|⟨e,h2⟩
 ·have:=solves_one h2 hP
  cases this
 ·exact e
theorem solve_none {R:List RowP} {N:List NeedP} {b:Int} (hb:b<1) {H:Heap} {v:Value} (h:SolveR R N b H v):v= .tuple #[.slice none 0 0,.int .i64 71]:=by
 rcases h with ⟨P,a,cap,e,h1,h0,h2,h3⟩|⟨e,h0,h⟩|⟨e,h⟩
 ·omega
 ·omega
 ·exact e
theorem needs_b {L:List Nat}: ∀ n∈needsM L,SpnB n.span:=fun n hn=>by
 obtain⟨j,rfl⟩:=needsM_mem hn
 exact needI_b j
theorem rin_built3 {x y:Int} {a:Option Addr} {n c:Nat}:Go.Program.built Tryz.prog 83 [(0,.int .u8 x),(1,.int .u8 y),(2,.slice a n c)]=some #[.int .u8 x,.int .u8 y,.slice a n c,.int .u8 0,.int .u8 0]:=by kernel_rfl
theorem rin_built2 {x y:Int}:Go.Program.built Tryz.prog 83 [(0,.int .u8 x),(1,.int .u8 y)]=some #[.int .u8 x,.int .u8 y,.slice none 0 0,.int .u8 0,.int .u8 0]:=by kernel_rfl
theorem knL_row {H H':Heap} {g1 g2:Nat} (b1:Blk H g1 #[.int .u16 7] 81) (b2:Blk H g2 #[.int .u8 0,.int .u8 0,.slice (some ⟨g1,0,none⟩) 1 1,.int .u8 0,.int .u8 0,.int .u8 1,.int .u8 1,.slice none 0 0,.int .u8 0,.int .u8 0,.int .u8 1,.int .u8 2,.slice none 0 0,.int .u8 0,.int .u8 0] 83):RowE rinE H (some ⟨g2,0,none⟩) knL:=by
 refine⟨_,Blk.row (c:=[.int .u8 0,.int .u8 0,.slice (some ⟨g1,0,none⟩) 1 1,.int .u8 0,.int .u8 0]++([.int .u8 1,.int .u8 1,.slice none 0 0,.int .u8 0,.int .u8 0]++[.int .u8 1,.int .u8 2,.slice none 0 0,.int .u8 0,.int .u8 0])) b2,?_⟩
 have hB: ∀ x∈knL,RowIB x:=by
  intro x hx
  simp only[knL,List.mem_cons,List.not_mem_nil,or_false]at hx
  rcases hx with rfl|rfl|rfl<;>constructor<;>simp
 exact .cons (x:=(⟨0,0,[7],0,0⟩:RowI)) ⟨_,1,rfl,Nat.le_refl _,Blk.row (c:=[.int .u16 7]) b1,hB _ (by simp[knL])⟩ (.cons (x:=(⟨1,1,[],0,0⟩:RowI)) ⟨none,0,rfl,Nat.le_refl _,Row.nil _ _,hB _ (by simp[knL])⟩ (LstV.one (x:=(⟨1,2,[],0,0⟩:RowI)) ⟨none,0,rfl,Nat.le_refl _,Row.nil _ _,hB _ (by simp[knL])⟩))
theorem needs_one {H:Heap} {g:Nat} {j:Nat} (hj:j<65536) (b:Blk H g #[.int .u16 (j:Int)] 81):CallH Tryz.prog 20 [.slice (some ⟨g,0,none⟩) 1 1] H fun x H'=>(∃ a' c',x= .slice a' (needsM [j]).length c'∧RowE needE H' a' (needsM [j]))∧Ext H H':=
 (sneeds_any [j] (fun x hx=>by rw[List.mem_singleton]at hx;omega) _ 1 1 H (Blk.row (c:=[.int .u16 (j:Int)]) b) rfl (by decide)).mono fun x H' ⟨⟨a',c',e,ho⟩,hx⟩=>⟨⟨a',c',e,ho.rowL.to fun _ _=>needT_E⟩,hx⟩
set_option maxHeartbeats 4000000 in
theorem known15_any {H:Heap} (hg:Glb H):CallH Tryz.prog 33 [] H fun v H'=>v= .bool true∧Ext H H':=by
 refine Vc.CallH.body Tryz.func33 Tryz.call33 rfl (by decide+kernel) rfl ?_
 ((conv=>whnf);repeat(any_goals((first|(show Go.Vc.PureH _ _ _;refine PureH.build3 _ rin_built3 ?_)|(show Go.Vc.PureH _ _ _;refine PureH.build2 _ rin_built2 ?_)|refine Vc.stp ?_)<;>(intros;(conv=>whnf)))))
 rename_i H1 z1 b1 x1 H2 z2 b2 x2
 have hkn:=knL_row (H':=H2) (b1.ext x2) b2
 refine(smade_any knL (by decide) _ 3 _ H2 hkn rfl (by decide)).mono ?_
 rintro _ H3 ⟨⟨S,ra,rc,aa,an,ac,st,hS,rfl,hR,hRc⟩,hx3⟩
 obtain⟨s1,s2,s3,hmd⟩:=kn_made S hS
 have hMok:=madeF_ok (knL.zip S) (fun x hx=>by
  have hx1:=(List.of_mem_zip hx).1
  simp only[knL,List.mem_cons,List.not_mem_nil,or_false]at hx1
  rcases hx1 with h|h|h<;>rw[h]<;>simp)
 rw[hmd]at hR hRc hMok ⊢
 have hz3:=hx3.size
 have hx03:Ext H H3:=x1.trans (x2.trans hx3)
 have hg3:=hg.ext hx03
 ((conv=>whnf);repeat(any_goals((first|refine Vc.stp ?_)<;>(intros;(conv=>whnf)))))
 rename_i H4 z4 b4 x4
 refine(needs_one (j:=0) (by decide) b4).mono ?_
 rintro _ H5 ⟨⟨na,nc,rfl,hN⟩,hx5⟩
 have hz5:=hx5.size
 have hx35:Ext H3 H5:=x4.trans hx5
 have hR5:=hR.ext row_ok hx35
 ((conv=>whnf);repeat(any_goals((first|refine Vc.stp ?_)<;>(intros;(conv=>whnf)))))
 have hRl:(knR s1 s2 s3).length=3:=rfl
 have hbest:=kn_best s1 s2 s3
 have hno:=kn_none s1 s2 s3
 have hunf:=kn_unfit s1 s2 s3
 have hbe:=kn_better s1 s2
 have hPl:(knP s1 s2).length=2:=rfl
 have hP0:(knP s1 s2)[1]? =some ⟨[98],⟨1,1,0,[]⟩,s2.1⟩:=rfl
 have hP1l:((knP s1 s2).take 1).length=1:=rfl
 obtain⟨R,hRe⟩: ∃ R,knR s1 s2 s3=R:=⟨_,rfl⟩
 obtain⟨P,hPe⟩: ∃ P,knP s1 s2=P:=⟨_,rfl⟩
 rw[hRe]at hR hRc hMok hRl hbest hno hunf hR5 ⊢
 rw[hPe]at hbest hunf hbe hPl hP0 hP1l
 have hnl0:(needsM [0]).length=1:=rfl
 have hnl3:(needsM [3]).length=1:=rfl
 have hnb0:=needs_b (L:=[0])
 have hnb3:=needs_b (L:=[3])
 obtain⟨N0,hN0⟩: ∃ N0,needsM [0]=N0:=⟨_,rfl⟩
 obtain⟨N3,hN3⟩: ∃ N3,needsM [3]=N3:=⟨_,rfl⟩
 rw[hN0]at hN hbest hunf hnl0 hnb0 ⊢
 rw[hN3]at hno hnl3 hnb3
 have hg5:=hg3.ext hx35
 refine(solve_small hMok (by omega) (by omega) hnb0 ra rc na nc 1048576 H5 hg5 hR5 hN).mono ?_
 rintro _ H6 ⟨hs6,hx6⟩
 obtain⟨pa,pc,rfl,hpc,hP6⟩:=solve_has hMok (by omega) hbest hs6
 have hz6:=hx6.size
 ((conv=>whnf);repeat(any_goals((first|refine Vc.stp ?_)<;>(intros;(conv=>whnf)))))
 rename_i H7 z7 b7 x7
 refine(needs_one (j:=3) (by decide) b7).mono ?_
 rintro _ H8 ⟨⟨ma,mc,rfl,hM⟩,hx8⟩
 have hz8:=hx8.size
 rw[hN3]at hM ⊢
 have hx58:Ext H5 H8:=hx6.trans (x7.trans hx8)
 ((conv=>whnf);repeat(any_goals((first|refine Vc.stp ?_)<;>(intros;(conv=>whnf)))))
 refine(solve_small hMok (by omega) (by omega) hnb3 ra rc ma mc 1048576 H8 (hg5.ext hx58) (hR5.ext row_ok hx58) hM).mono ?_
 rintro _ H9 ⟨hs9,hx9⟩
 obtain rfl:=solve_hasnt hMok (by omega) hno hs9
 have hx59:=hx58.trans hx9
 ((conv=>whnf);repeat(any_goals((first|refine Vc.stp ?_)<;>(intros;(conv=>whnf)))))
 refine(solve_small hMok (by omega) (by omega) hnb0 ra rc na nc 0 H9 (hg5.ext hx59) (hR5.ext row_ok hx59) (hN.ext need_ok hx59)).mono ?_
 rintro _ H10 ⟨hs10,hx10⟩
 obtain rfl:=solve_none (by decide) hs10
 have hx5a:=hx59.trans hx10
 have hx0a:=And.intro trivial (hx03.trans (hx35.trans hx5a))
 have hx6a:Ext H6 H10:=(x7.trans hx8).trans (hx9.trans hx10)
 have hPa:=hP6.ext pin_ok hx6a
 obtain⟨b,o,c,hcP,hcl,hix⟩:=hPa.fix pin_ok (by decide) rfl hP0
 obtain⟨qa,qc,ec,_,_,_⟩:=(id hcP)
 have hc0:hcell H10 ⟨b,o+0,none⟩=some (.string (mkS [98])):=hcl 0 _ (by rw[ec];rfl)
 have hc2:hcell H10 ⟨b,o+1+1,none⟩=some (.int .i64 ((1:Nat):Int)):=by rw[Nat.add_assoc];exact hcl 2 _ (by rw[ec];rfl)
 have e1:((mkS [98]).toList==(⟨#[98]⟩:ByteArray).toList)=true:=str_mk _ _
 have hfit:FitP R N0 P:=hbest.fit
 have hB:=made_bounds hMok
 have hPv: ∀ p∈P,VerB p.v:=fun p hp=>by
  obtain⟨r,hr,rfl⟩:=hfit.row p hp
  exact rows_ver hB r hr
 have hs1:SortP (P.take 1):=hfit.sorted.sublist (List.take_sublist _ _)
 have hr1: ∀ p∈P.take 1,∃ r∈R,pinR r=p:=fun p hp=>hfit.row p (List.mem_of_mem_take hp)
 have hRa:=hR5.ext row_ok hx5a
 have hNa:=hN.ext need_ok hx5a
 have hga:=hg5.ext hx5a
 have hP1: ∀ H',Ext H10 H'→RowE pinE H' pa (P.take 1):=fun H' k=>(hPa.ext pin_ok k).take pin_ok 1
 have hz10:=hx0a.2.size
 have hbi:=better_irrefl P
 ((conv=>whnf);repeat(any_goals((first|(refine hix _ _ (by omega) ?_)|(refine BndH.nat 1 rfl (by omega) ?_)|((fail_if_success (have:=hxf1));show Go.Vc.CallH _ _ _ _ _;refine(sfits_any R hMok.apart hB (by omega) N0 hnb0 P hfit.sorted hfit.row ra na pa rc _ nc _ pc H10 hga hRa hNa hPa rfl rfl (by omega) (by omega)).mono ?_;rintro _ H11 ⟨⟨bf,rfl,hbf⟩,hxf1⟩;have hzf1:=hxf1.size;obtain rfl:bf=true:=hbf.2 hfit)|((fail_if_success (have:=hxf2));show Go.Vc.CallH _ _ _ _ _;refine(sfits_any R hMok.apart hB (by omega) N0 hnb0 (P.take 1) hs1 hr1 ra na pa rc _ nc _ pc H11 (hga.ext hxf1) (hRa.ext row_ok hxf1) (hNa.ext need_ok hxf1) (hP1 _ hxf1) rfl hP1l (by omega) (by omega)).mono ?_;rintro _ H12 ⟨⟨bg,rfl,hbg⟩,hxf2⟩;have hzf2:=hxf2.size;obtain rfl:bg=false:=(by cases bg;rfl;exact absurd (hbg.1 rfl) hunf))|((fail_if_success (have:=hxf3));show Go.Vc.CallH _ _ _ _ _;refine(sbetter_any P (P.take 1) hPv (fun p hp=>hPv p (List.mem_of_mem_take hp)) pa pa _ _ pc pc H12 (hPa.ext pin_ok (hxf1.trans hxf2)) (hP1 _ (hxf1.trans hxf2)) rfl hP1l (by omega) (by omega)).mono ?_;rintro _ H13 ⟨rfl,hxf3⟩;have hzf3:=hxf3.size;rw[hbe])|((fail_if_success (have:=hxf4));show Go.Vc.CallH _ _ _ _ _;refine(sbetter_any P P hPv hPv pa pa _ _ pc pc H13 (hPa.ext pin_ok (hxf1.trans (hxf2.trans hxf3))) (hPa.ext pin_ok (hxf1.trans (hxf2.trans hxf3))) rfl rfl (by omega) (by omega)).mono ?_;rintro _ H14 ⟨rfl,hxf4⟩;rw[hbi])|refine Vc.stp ?_)<;>(intros;(conv=>whnf)))))
 exact⟨rfl,hx0a.2.trans (hxf1.trans (hxf2.trans (hxf3.trans hxf4)))⟩
end Go.Proofs.YtjdieklgoepdjaaGreatDoor
