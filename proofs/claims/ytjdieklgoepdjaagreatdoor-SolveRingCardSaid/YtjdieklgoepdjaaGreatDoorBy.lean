import Derived.Test.YtjdieklgoepdjaaGreatDoorBt
set_option linter.unusedVariables false
set_option linter.unusedSimpArgs false
set_option maxRecDepth 100000
/- SolveRing, plain and walked. -/
namespace Go.Slv
open Go.Scr Go.Tre
theorem ver090:verF [48,46,57,46,48]=some v090:=by decide+kernel
theorem span_ge:spanF tGe=some spGe:=by decide+kernel
theorem rgFew_all:((List.range 8).all fun n=>(List.range (n+3)).all fun b=>fewB (rgR (n+2) b))=true:=by decide+kernel
theorem rgFew {k b:Nat} (h1:2≤k) (h2:k≤9) (hb:b≤k):fewB (rgR k b)=true:=by
 have h:=List.all_eq_true.1 rgFew_all (k-2) (List.mem_range.2 (by omega))
 have h:=List.all_eq_true.1 h b (List.mem_range.2 (by omega))
 rwa[show k-2+2=k by omega]at h
def rgA (k b i:Nat):List RowP:=(List.range i).map (rgRow k b)
theorem rgA_succ (k b i:Nat):rgA k b (i+1)=rgA k b i++[rgRow k b i]:=by
 unfold rgA
 rw[List.range_succ,List.map_append]
 rfl
theorem rgA_len (k b i:Nat):(rgA k b i).length=i:=by unfold rgA;simp
theorem rgR_len (k b:Nat):(rgR k b).length=k+1:=by unfold rgR;simp
end Go.Slv
namespace Go.Proofs.YtjdieklgoepdjaaGreatDoor
open Go Go.Vc Go.Scr Go.Slv
theorem rgB {k b:Nat}:RowsB (rgR k b):=by
 have hz: ∀ r∈rgR k b,VerS r.v∧r.needs.length≤1000∧ ∀ n∈r.needs,SpnB n.span:=fun r hr=>by
  rcases List.mem_append.1 hr with hr|hr
  ·obtain⟨i,_,rfl⟩:=List.mem_map.1 hr
   refine⟨?_,by show 1≤1000;decide,fun n hn=> ?_⟩
   ·unfold rgRow
    dsimp only
    split
    ·exact verS_small (v:=v090) (by decide)
    ·exact verS_small (v:=v100) (by decide)
   ·rw[show(rgRow k b i).needs=[rgNeed k (i+1)]from rfl,List.mem_singleton]at hn
    subst hn
    exact spn_b (s:=spGe) (by decide)
  ·rw[List.mem_singleton]at hr
   subst hr
   exact⟨verS_small (v:=v100) (by decide),Nat.zero_le _,fun n hn=>by cases hn⟩
 exact⟨fun r hr=>(hz r hr).1,fun r hr=>(hz r hr).2.1,fun r hr=>(hz r hr).2.2⟩
theorem solve_ring {k b:Nat} (h1:2≤k) (h2:k≤9) (hb:b≤k) (ra:Option Addr) (rn rc:Nat) (hrn:(rgR k b).length=rn) (na:Option Addr) (nc:Nat) (H:Heap) (hg:Glb H) (hr:RowE rowE H ra (rgR k b)) (hn:RowE needE H na [rgRoot]):
  CallH Tryz.prog 35 [.slice ra rn rc,.slice na 1 nc,.int .i64 1048576] H fun v H'=>(if b<k then v= .tuple #[.slice none 0 0,.int .i64 70]else ∃ P a cap,v= .tuple #[.slice a k cap,.int .i64 0]∧List.length P=k∧FitP (rgR k b) [rgRoot] P∧RowE pinE H' a P)∧Ext H H':=by
 subst hrn
 obtain⟨g1,g2,g3⟩:=few_of (rgFew h1 h2 hb)
 have hl:=rgR_len k b
 refine(solve_any (rgR k b) [rgRoot] g1 rgB (by omega) (by decide) (fun n hn=>by rw[List.mem_singleton]at hn;subst hn;exact spn_b (s:=spAny) (by decide)) g3 ra rc na nc 1048576 H hg hr hn).mono ?_
 rintro v H' ⟨hs,hx⟩
 refine⟨?_,hx⟩
 by_cases hbk:b<k
 ·rw[if_pos hbk]
  rcases hs with ⟨P,a,cap,e,_,_,h4,h5⟩|⟨e,_,h4⟩|⟨e,h⟩
  ·cases solves_one h4 (ring_none h1 h2 hbk)
  ·exact e
  ·exact absurd ⟨by omega,g2,by decide⟩ (h (by decide))
 ·rw[if_neg hbk]
  obtain rfl:b=k:=by omega
  obtain⟨Q,q1,q2⟩:=ring_some h1 h2
  rcases hs with ⟨P,a,cap,e,_,_,h4,h5⟩|⟨e,_,h4⟩|⟨e,h⟩
  ·cases solves_one h4 q1
   rw[q2]at e
   exact⟨_,a,cap,e,q2,q1.fit,h5⟩
  ·cases solves_one h4 q1
  ·exact absurd ⟨by omega,g2,by decide⟩ (h (by decide))
theorem ring_fits {k b:Nat} (h1:2≤k) (h2:k≤9) (hb:b≤k) {P:List PinP} (hP:P.length=k) (hf:FitP (rgR k b) [rgRoot] P) (ra:Option Addr) (rn rc:Nat) (hrn:(rgR k b).length=rn) (na:Option Addr) (nc:Nat) (pa:Option Addr) (pc:Nat) (H:Heap) (hg:Glb H) (hr:RowE rowE H ra (rgR k b)) (hn:RowE needE H na [rgRoot]) (hp:RowE pinE H pa P):
  CallH Tryz.prog 37 [.slice ra rn rc,.slice na 1 nc,.slice pa k pc] H fun v H'=>v= .bool true∧Ext H H':=by
 subst hrn
 obtain⟨g1,g2,g3⟩:=few_of (rgFew h1 h2 hb)
 have hl:=rgR_len k b
 refine(sfits_any (rgR k b) g1 rgB (by omega) [rgRoot] (fun n hn=>by rw[List.mem_singleton]at hn;subst hn;exact spn_b (s:=spAny) (by decide)) P hf.sorted hf.row ra na pa rc 1 nc k pc H hg hr hn hp rfl hP (by decide) (by omega)).mono ?_
 rintro v H' ⟨⟨c,rfl,hc⟩,hx⟩
 rw[hc.2 hf]
 exact⟨rfl,hx⟩
theorem row_built5r {s:ByteArray} {v:VerP} {va:Option Addr} {vc:Nat} {a:Option Addr} {n c:Nat}:Go.Program.built Tryz.prog 54 [(0,.string s),(1,verC v va vc),(4,.slice a n c)]=some (([.string s,.int .i64 v.ma,.int .i64 v.mi,.int .i64 v.pa,.slice va v.pre.length vc]:List Value)++strV z32++([.int .i64 0,.slice a n c]:List Value)).toArray:=by kernel_rfl
theorem rowB5r {K:Value→Prop} {o1 o2 o3:Operand} {s:ByteArray} {v:VerP} {va:Option Addr} {vc:Nat} {a:Option Addr} {n c:Nat} (h:K (.agg (([.string s,.int .i64 v.ma,.int .i64 v.mi,.int .i64 v.pa,.slice va v.pre.length vc]:List Value)++strV z32++([.int .i64 0,.slice a n c]:List Value)).toArray)):PureH Tryz.prog (Instr.build 54 ((List.map (fun x:Nat×Operand=>x.1) (#[(0,o1),(1,o2),(4,o3)]:Array (Nat×Operand)).toList).zip [.string s,verC v va vc,.slice a n c]).toArray) K:=PureH.build3 _ row_built5r h
structure RgS (H:Heap) (b1 b2 b3:Nat) (va wa sa:Option Addr) (vc wc sc:Nat):Prop where
 v:Blk H b1 (verL v100 va vc).toArray 48
 w:Blk H b2 (verL v090 wa wc).toArray 48
 s:Blk H b3 ([.bool spGe.any,.slice sa spGe.or_.length sc]:List Value).toArray 43
 o:RowL bndsT 136 H sa spGe.or_
 c:spGe.or_.length≤sc
theorem RgS.ext {H H':Heap} {b1 b2 b3:Nat} {va wa sa:Option Addr} {vc wc sc:Nat} (h:RgS H b1 b2 b3 va wa sa vc wc sc) (k:Ext H H'):RgS H' b1 b2 b3 va wa sa vc wc sc:=⟨h.v.ext k,h.w.ext k,h.s.ext k,h.o.ext bndsT_ok k,h.c⟩
theorem RgS.wr {H H':Heap} {a:Option Addr} {b1 b2 b3:Nat} {va wa sa:Option Addr} {vc wc sc:Nat} (h:RgS H b1 b2 b3 va wa sa vc wc sc) (k:Wr a H H') (ho: ∀ p,a=some p→ ∃ c,Blk H p.block c 54):RgS H' b1 b2 b3 va wa sa vc wc sc:=⟨h.v.keep k (blk_off (by decide) ho h.v),h.w.keep k (blk_off (by decide) ho h.w),h.s.keep k (blk_off (by decide) ho h.s),h.o.keep bndsT_ok k (fun b c u f hb hT=>by
 refine blk_off ?_ ho hb f
 rcases hT with rfl|rfl|rfl<;>decide),h.c⟩
set_option maxHeartbeats 8000000 in
theorem ring_any {H:Heap} (hg:Glb H) (n:Nat) (hn:n<256) (m:Nat) (hm:m<256):
  CallH Tryz.prog 14 [.int .u8 n,.int .u8 m] H fun v H'=>v= .bool true∧Ext H H':=by
 refine Vc.CallH.body Tryz.func14 Tryz.call14 rfl (by decide+kernel) rfl ?_
 obtain⟨k,hk⟩: ∃ k,n % 8+2=k:=⟨_,rfl⟩
 have hk1:2≤k:=by omega
 have hk2:k≤9:=by omega
 have hki:(n:Int) % 8+2=(k:Int):=by rw[←hk];push_cast;rfl
 obtain⟨b,hb⟩: ∃ b,m % (k+1)=b:=⟨_,rfl⟩
 have hbk:b≤k:=by have:=Nat.mod_lt m (show 0<k+1 by omega);omega
 have hbi:(m:Int) % ((k:Int)+1)=(b:Int):=by rw[←hb];push_cast;rfl
 have v1:=fun H=>rver_any [49,46,48,46,48] (by decide) H
 rw[ver100]at v1
 have v2:=fun H=>rver_any [48,46,57,46,48] (by decide) H
 rw[ver090]at v2
 have v3:=fun H=>rspan_any tGe (by decide) H
 rw[span_ge]at v3
 ((conv=>whnf);repeat(any_goals((first|((fail_if_success (have:=hx1));show Go.Vc.CallH _ _ _ _ _;refine(known15_any hg).mono ?_;rintro _ H1 ⟨rfl,hx1⟩;have hz1:=hx1.size)|(refine RemH.pos (by omega) ?_;rw[hki,hbi])|refine Vc.stp ?_)<;>(intros;(conv=>whnf)))))
 refine(v1 _).mono ?_
 rintro _ H2 ⟨⟨va,vc,rfl,_⟩,hx2⟩
 have hz2:=hx2.size
 ((conv=>whnf);repeat(any_goals((first|refine Vc.stp ?_)<;>(intros;(conv=>whnf)))))
 rename_i Hl zl bl xl
 unfold verC
 refine DoH.store_list (c:=verL v100 va vc) bl rfl rfl rfl (fun u hu=>by simp[verL]at hu;rcases hu with rfl|rfl|rfl|rfl<;>rfl) ?_
 intro H3 z3 c1 k3
 have hx23:Ext H2 H3:=xl.but k3 (Nat.le_refl _)
 clear xl bl k3
 ((conv=>whnf);repeat(any_goals((first|refine Vc.stp ?_)<;>(intros;(conv=>whnf)))))
 refine(v2 _).mono ?_
 rintro _ H4 ⟨⟨wa,wc,rfl,_⟩,hx4⟩
 have hz4:=hx4.size
 ((conv=>whnf);repeat(any_goals((first|refine Vc.stp ?_)<;>(intros;(conv=>whnf)))))
 rename_i Hm zm bm xm
 unfold verC
 refine DoH.store_list (c:=verL v090 wa wc) bm rfl rfl rfl (fun u hu=>by simp[verL]at hu;rcases hu with rfl|rfl|rfl|rfl<;>rfl) ?_
 intro H5 z5 c2 k5
 have hx45:Ext H4 H5:=xm.but k5 (Nat.le_refl _)
 clear xm bm k5
 ((conv=>whnf);repeat(any_goals((first|refine Vc.stp ?_)<;>(intros;(conv=>whnf)))))
 refine(v3 _).mono ?_
 rintro _ H6 ⟨⟨sa,sc,rfl,hso⟩,hx6⟩
 have hz6:=hx6.size
 ((conv=>whnf);repeat(any_goals((first|refine Vc.stp ?_)<;>(intros;(conv=>whnf)))))
 rename_i Hn zn bn xn H7 z7 c3 k7
 have hx67:Ext H6 H7:=xn.but k7 (Nat.le_refl _)
 clear xn bn k7
 have hS7:RgS H7 H2.size H4.size H6.size va wa sa vc wc sc:=⟨c1.ext (hx4.trans (hx45.trans (hx6.trans hx67))),c2.ext (hx6.trans hx67),c3,hso.rowL.ext bndsT_ok hx67,hso.cap_le⟩
 have hx07:Ext H H7:=hx1.trans (hx2.trans (hx23.trans (hx4.trans (hx45.trans (hx6.trans hx67)))))
 have hg7:=hg.ext hx07
 clear c1 c2 c3 hso hx1 hx2 hx23 hx4 hx45 hx6 hx67 v1 v2 v3
 have hT0:OwnE rowT 39 H7 H7.size 54 none (rgA k b 0) 0:=OwnE.nil _ _ _ _ _
 refine LoopH.intro (fun(x:ChI)=>[(14,.int .i64 x.i),(13,.slice x.a (rgA k b x.i).length x.cap)]) (fun x H'=>x.i≤k∧OwnE rowT 39 H' H7.size 54 x.a (rgA k b x.i) x.cap∧RgS H' H2.size H4.size H6.size va wa sa vc wc sc∧Ext H7 H') (fun x=>k-x.i) ⟨0,none,0⟩ ⟨rfl,rfl,trivial⟩ ⟨Nat.zero_le _,hT0,hS7,Ext.refl _⟩ ?_
 clear hS7 hT0
 rintro⟨i,oa,oc⟩ H8 ⟨hi,ho8,hS8,hx8⟩
 dsimp only at hi ho8 ⊢
 have hz8:=hx8.size
 have hl8:=rgA_len k b i
 by_cases hik:i<k
 ·have hvv: ∀ (j:Nat) (u:Value),(verL v100 va vc)[j]? =some u→hcell H8 ⟨H2.size,0+j,none⟩=some u:=fun j u hu=>blk_list hS8.v 0 j u (by rw[Nat.zero_add];exact hu)
  ((conv=>whnf);repeat(any_goals((first|((with_reducible apply SemH.load_ver);(focus((exact hvv)));(focus((exact Vc.xt)));(focus((conv=>whnf))))|refine Vc.stp ?_)<;>(intros;(conv=>whnf)))))
  rename_i HB zB bB xB
  unfold verC
  refine DoH.store_list (c:=verL v100 va vc) bB rfl rfl rfl (fun u hu=>by simp[verL]at hu;rcases hu with rfl|rfl|rfl|rfl<;>rfl) ?_
  intro HC zC bC kC
  have hxC:Ext H8 HC:=xB.but kC (Nat.le_refl _)
  have hzC:=hxC.size
  clear xB bB kC
  obtain⟨q,hq⟩: ∃ q,(i+1) % k=q:=⟨_,rfl⟩
  have hqi:((i:Int)+1) % (k:Int)=(q:Int):=by rw[←hq];push_cast;rfl
  have hqk:q<k:=by rw[←hq];exact Nat.mod_lt _ (by omega)
  have hdl:=itoa_len (i:Int) ⟨by omega,by omega⟩
  have hdl2:=itoa_len (q:Int) ⟨by omega,by omega⟩
  have hnm:(⟨#[114]⟩:ByteArray)++mkS (Lib.itoa (i:Int))=mkS (numName 114 i):=by
   rw[show(⟨#[114]⟩:ByteArray)=mkS [114]from rfl,mkS_app,itoa_decT i (by omega)];rfl
  have hnm2:(⟨#[114]⟩:ByteArray)++mkS (Lib.itoa (q:Int))=mkS (numName 114 q):=by
   rw[show(⟨#[114]⟩:ByteArray)=mkS [114]from rfl,mkS_app,itoa_decT q (by omega)];rfl
  by_cases hib:i=b
  ·have hww: ∀ (j:Nat) (u:Value),(verL v090 wa wc)[j]? =some u→hcell HC ⟨H4.size,0+j,none⟩=some u:=fun j u hu=>blk_list (hS8.ext hxC).w 0 j u (by rw[Nat.zero_add];exact hu)
   ((conv=>whnf);repeat(any_goals((first|((with_reducible apply SemH.load_ver);(focus((exact hww)));(focus((exact Vc.xt)));(focus((conv=>whnf))))|refine Vc.stp ?_)<;>(intros;(conv=>whnf)))))
   unfold verC
   refine DoH.store_list (c:=verL v090 wa wc) bC rfl rfl rfl (fun u hu=>by simp[verL]at hu;rcases hu with rfl|rfl|rfl|rfl<;>rfl) ?_
   intro HD zD bD kD
   have hx8D:Ext H8 HD:=hxC.but kD (Nat.le_refl _)
   have hzD:=hx8D.size
   clear kD bC hxC hvv hww
   have hyv:(rgRow k b i).v=v090:=by unfold rgRow;dsimp only;simp[hib]
   have hvD: ∀ (j:Nat) (u:Value),([.int .i64 v090.ma,.int .i64 v090.mi,.int .i64 v090.pa,.slice wa v090.pre.length wc]:List Value)[j]? =some u→hcell HD ⟨H8.size,0+j,none⟩=some u:=fun j u hu=>blk_list bD 0 j u (by rw[Nat.zero_add];exact hu)
   have hss: ∀ (k:Nat) (w:Value),([.bool spGe.any,.slice sa spGe.or_.length sc]:List Value)[k]? =some w→hcell HD ⟨H6.size,0+k,none⟩=some w:=fun k w hw=>blk_list (hS8.ext hx8D).s 0 k w (by rw[Nat.zero_add];exact hw)
   ((conv=>whnf);repeat(any_goals((first|(refine RemH.pos (by omega) ?_;rw[hqi])|(show Go.Vc.CallH _ _ _ _ _;refine(rdec_any i (by omega) _).mono ?_;rintro _ _ ⟨rfl,rfl⟩)|(show Go.Vc.CallH _ _ _ _ _;refine(rdec_any q (by omega) _).mono ?_;rintro _ _ ⟨rfl,rfl⟩)|((with_reducible apply SemH.load_ver);(focus((exact hvD)));(focus((exact Vc.xt)));(focus((conv=>whnf))))|(refine Vc.StillsH.load rfl rfl rfl rfl rfl rfl (by exact SemH.load_spn hss (by exact Vc.xt) rfl) ?_)|(refine Vc.StillsH.load rfl rfl rfl rfl rfl rfl (by exact SemH.load_ver hvD (by exact Vc.xt) rfl) ?_)|((with_reducible apply SemH.load_spn);(focus((exact hss)));(focus((exact Vc.xt)));(focus((conv=>whnf))))|((with_reducible apply needBc);(focus((conv=>whnf))))|((with_reducible apply rowB5r);(focus((conv=>whnf))))|(refine NeedH.mk ⟨by(simp only[ByteArray.size_append,szL2,szM2,List.length_cons,List.length_nil];omega),?_⟩)|((with_reducible refine Vc.DrawH.held [0,1,4,5,6,7,8,11,2,3,9,10,12,13,14,15,16,17] [(2,[4,11]),(9,[4,11]),(13,[4])] mixed (by decide+kernel) ?_))|refine Vc.stp ?_)<;>(intros;(conv=>whnf)))))
   all_goals
    rename_i HF zF bF xF HL zL bL' xL
    rw[hnm2]at bF
    rw[hnm]at bL'
    have bF':=flat_1 (c:=[.string (mkS (numName 114 q)),.bool spGe.any,.slice sa spGe.or_.length sc,.string (mkS tGe)]) bF
    have bL:=flat_1 (c:=chC (numName 114 i) v090 wa wc (some ⟨HD.size,0,none⟩) 1 1) bL'
    have hxL:Ext H8 HL:=hx8D.trans (xF.trans xL)
    have hnL:RowL needT 45 HL (some ⟨HD.size,0,none⟩) [rgNeed k (i+1)]:=(own_litE needT_ok.ok (bF'.ext xL) (LstV.one (c:=[.string (mkS (numName 114 q)),.bool spGe.any,.slice sa spGe.or_.length sc,.string (mkS tGe)]) ⟨sa,sc,by rw[show(rgNeed k (i+1)).name=numName 114 q by rw[←hq];rfl];rfl,hS8.c,hS8.o.ext bndsT_ok hxL⟩) (Nat.le_refl _) (by simp)).rowL
    have hrT:rowT HL (rgRow k b i) (chC (numName 114 i) v090 wa wc (some ⟨HD.size,0,none⟩) 1 1):=⟨wa,wc,some ⟨HD.size,0,none⟩,1,by rw[hyv];rfl,rfl,by rw[hyv];exact Nat.zero_le _,by rw[hyv];exact RowT.nil _ _ _,Nat.le_refl _,hnL⟩
    have hoL:=ho8.ext rowT_ok.ok hxL
    have hzL:=hxL.size
    refine NextH.appE rowT_ok rfl ⟨_,rfl,fun _ h=>by cases h⟩ rfl rfl rfl rfl (by decide) (by unfold rowTT;decide) hoL rfl (Blk.row bL) (LstV.one hrT) rfl (by omega) (by omega) ?_
    intro aX cX HX hoX hwX hfX
    have hxX:Ext H7 HX:=ext_wr2 (n:=HL.size) (hx8.trans hxL) (fun p hp=>hoL.block p hp) hwX
    have hSX:=(hS8.ext hxL).wr hwX (fun p hp=>hoL.typ p hp)
    have hlX:(rgA k b i++[rgRow k b i]).length=(rgA k b i).length+1:=List.length_append
    clear hrT bL hoL hS8 ho8
    ((conv=>whnf);repeat(any_goals((first|refine Vc.stp ?_)<;>(intros;(conv=>whnf)))))
    exact⟨⟨i+1,aX,cX⟩,⟨rfl,by(show Value.slice _ _ _=Value.slice _ _ _;rw[rgA_succ,hlX]),trivial⟩,⟨hik,by(dsimp only;rw[rgA_succ];exact hoX),hSX,hxX⟩,by show k-(i+1)<k-i;omega⟩
  ·obtain⟨HD,hHD⟩: ∃ HD,HC=HD:=⟨_,rfl⟩
   subst hHD
   have bD:=bC
   have hx8D:=hxC
   clear bC hxC hvv
   have hyv:(rgRow k b i).v=v100:=by unfold rgRow;dsimp only;simp[hib]
   have hvD: ∀ (j:Nat) (u:Value),([.int .i64 v100.ma,.int .i64 v100.mi,.int .i64 v100.pa,.slice va v100.pre.length vc]:List Value)[j]? =some u→hcell HC ⟨H8.size,0+j,none⟩=some u:=fun j u hu=>blk_list bD 0 j u (by rw[Nat.zero_add];exact hu)
   have hss: ∀ (k:Nat) (w:Value),([.bool spGe.any,.slice sa spGe.or_.length sc]:List Value)[k]? =some w→hcell HC ⟨H6.size,0+k,none⟩=some w:=fun k w hw=>blk_list (hS8.ext hx8D).s 0 k w (by rw[Nat.zero_add];exact hw)
   ((conv=>whnf);repeat(any_goals((first|(refine RemH.pos (by omega) ?_;rw[hqi])|(show Go.Vc.CallH _ _ _ _ _;refine(rdec_any i (by omega) _).mono ?_;rintro _ _ ⟨rfl,rfl⟩)|(show Go.Vc.CallH _ _ _ _ _;refine(rdec_any q (by omega) _).mono ?_;rintro _ _ ⟨rfl,rfl⟩)|((with_reducible apply SemH.load_ver);(focus((exact hvD)));(focus((exact Vc.xt)));(focus((conv=>whnf))))|(refine Vc.StillsH.load rfl rfl rfl rfl rfl rfl (by exact SemH.load_spn hss (by exact Vc.xt) rfl) ?_)|(refine Vc.StillsH.load rfl rfl rfl rfl rfl rfl (by exact SemH.load_ver hvD (by exact Vc.xt) rfl) ?_)|((with_reducible apply SemH.load_spn);(focus((exact hss)));(focus((exact Vc.xt)));(focus((conv=>whnf))))|((with_reducible apply needBc);(focus((conv=>whnf))))|((with_reducible apply rowB5r);(focus((conv=>whnf))))|(refine NeedH.mk ⟨by(simp only[ByteArray.size_append,szL2,szM2,List.length_cons,List.length_nil];omega),?_⟩)|((with_reducible refine Vc.DrawH.held [0,1,4,5,6,7,8,11,2,3,9,10,12,13,14,15,16,17] [(2,[4,11]),(9,[4,11]),(13,[4])] mixed (by decide+kernel) ?_))|refine Vc.stp ?_)<;>(intros;(conv=>whnf)))))
   all_goals
    rename_i HF zF bF xF HL zL bL' xL
    rw[hnm2]at bF
    rw[hnm]at bL'
    have bF':=flat_1 (c:=[.string (mkS (numName 114 q)),.bool spGe.any,.slice sa spGe.or_.length sc,.string (mkS tGe)]) bF
    have bL:=flat_1 (c:=chC (numName 114 i) v100 va vc (some ⟨HC.size,0,none⟩) 1 1) bL'
    have hxL:Ext H8 HL:=hx8D.trans (xF.trans xL)
    have hnL:RowL needT 45 HL (some ⟨HC.size,0,none⟩) [rgNeed k (i+1)]:=(own_litE needT_ok.ok (bF'.ext xL) (LstV.one (c:=[.string (mkS (numName 114 q)),.bool spGe.any,.slice sa spGe.or_.length sc,.string (mkS tGe)]) ⟨sa,sc,by rw[show(rgNeed k (i+1)).name=numName 114 q by rw[←hq];rfl];rfl,hS8.c,hS8.o.ext bndsT_ok hxL⟩) (Nat.le_refl _) (by simp)).rowL
    have hrT:rowT HL (rgRow k b i) (chC (numName 114 i) v100 va vc (some ⟨HC.size,0,none⟩) 1 1):=⟨va,vc,some ⟨HC.size,0,none⟩,1,by rw[hyv];rfl,rfl,by rw[hyv];exact Nat.zero_le _,by rw[hyv];exact RowT.nil _ _ _,Nat.le_refl _,hnL⟩
    have hoL:=ho8.ext rowT_ok.ok hxL
    have hzL:=hxL.size
    refine NextH.appE rowT_ok rfl ⟨_,rfl,fun _ h=>by cases h⟩ rfl rfl rfl rfl (by decide) (by unfold rowTT;decide) hoL rfl (Blk.row bL) (LstV.one hrT) rfl (by omega) (by omega) ?_
    intro aX cX HX hoX hwX hfX
    have hxX:Ext H7 HX:=ext_wr2 (n:=HL.size) (hx8.trans hxL) (fun p hp=>hoL.block p hp) hwX
    have hSX:=(hS8.ext hxL).wr hwX (fun p hp=>hoL.typ p hp)
    have hlX:(rgA k b i++[rgRow k b i]).length=(rgA k b i).length+1:=List.length_append
    clear hrT bL hoL hS8 ho8
    ((conv=>whnf);repeat(any_goals((first|refine Vc.stp ?_)<;>(intros;(conv=>whnf)))))
    exact⟨⟨i+1,aX,cX⟩,⟨rfl,by(show Value.slice _ _ _=Value.slice _ _ _;rw[rgA_succ,hlX]),trivial⟩,⟨hik,by(dsimp only;rw[rgA_succ];exact hoX),hSX,hxX⟩,by show k-(i+1)<k-i;omega⟩
 ·obtain rfl:i=k:=by omega
  have hvv: ∀ (j:Nat) (u:Value),(verL v100 va vc)[j]? =some u→hcell H8 ⟨H2.size,0+j,none⟩=some u:=fun j u hu=>blk_list hS8.v 0 j u (by rw[Nat.zero_add];exact hu)
  ((conv=>whnf);repeat(any_goals((first|((with_reducible apply SemH.load_ver);(focus((exact hvv)));(focus((exact Vc.xt)));(focus((conv=>whnf))))|((with_reducible apply rowB2);(focus((conv=>whnf))))|refine Vc.stp ?_)<;>(intros;(conv=>whnf)))))
  rename_i HL zL bL' xL
  have bL:=flat_1 (c:=chC [97,108,111,110,101] v100 va vc none 0 0) bL'
  have hrT:rowT HL rgAlone (chC [97,108,111,110,101] v100 va vc none 0 0):=⟨va,vc,none,0,rfl,rfl,Nat.zero_le _,RowT.nil _ _ _,Nat.le_refl _,RowL.nil _ _ _ _⟩
  have hoL:=ho8.ext rowT_ok.ok xL
  have hxL:=hx8.trans xL
  have hzL:=hxL.size
  refine NextH.appE rowT_ok rfl ⟨_,rfl,fun _ h=>by cases h⟩ rfl rfl rfl rfl (by decide) (by unfold rowTT;decide) hoL rfl (Blk.row bL) (LstV.one hrT) rfl (by omega) (by omega) ?_
  intro aX cX HX hoX hwX hfX
  have hxX:Ext H7 HX:=ext_wr2 (n:=HL.size) hxL (fun p hp=>hoL.block p hp) hwX
  have hzX:=hxX.size
  have hrn:(rgR i b).length=(rgA i b i).length+1:=by rw[rgR_len,rgA_len]
  clear hrT bL hoL hS8 ho8 bL' hvv
  ((conv=>whnf);repeat(any_goals((first|((with_reducible apply spanB);(focus((conv=>whnf))))|((with_reducible apply needBc);(focus((conv=>whnf))))|refine Vc.stp ?_)<;>(intros;(conv=>whnf)))))
  rename_i HM zM bM' xM
  have bM:=flat_1 (c:=[.string (mkS (numName 114 0)),.bool spAny.any,.slice none spAny.or_.length 0,.string (mkS tStar)]) bM'
  have hnM:RowL needT 45 HM (some ⟨HX.size,0,none⟩) [rgRoot]:=(own_litE needT_ok.ok bM (LstV.one (c:=[.string (mkS (numName 114 0)),.bool spAny.any,.slice none spAny.or_.length 0,.string (mkS tStar)]) ⟨none,0,rfl,Nat.le_refl _,RowL.nil _ _ _ _⟩) (Nat.le_refl _) (by simp)).rowL
  have hrE:RowE rowE HM aX (rgR i b):=(hoX.ext rowT_ok.ok xM).rowL.to fun _ _=>rowT_E
  refine(solve_ring hk1 hk2 hbk aX _ cX hrn _ 1 HM ((hg7.ext hxX).ext xM) hrE (hnM.to fun _ _=>needT_E)).mono ?_
  rintro v HN ⟨hv,hxN⟩
  have hxF:Ext H HN:=hx07.trans (hxX.trans (xM.trans hxN))
  have hzN:=hxN.size
  clear bM' bM hnM hoX
  by_cases hbi2:b<i
  ·rw[if_pos hbi2]at hv
   subst hv
   ((conv=>whnf);repeat(any_goals((first|refine Vc.stp ?_)<;>(intros;(conv=>whnf)))))
   exact⟨rfl,hxF⟩
  ·rw[if_neg hbi2]at hv
   obtain⟨P,pa,pc,rfl,hPl,hfit,hP⟩:=hv
   ((conv=>whnf);repeat(any_goals((first|((with_reducible apply spanB);(focus((conv=>whnf))))|((with_reducible apply needBc);(focus((conv=>whnf))))|refine Vc.stp ?_)<;>(intros;(conv=>whnf)))))
   rename_i HO zO bO' xO
   have bO:=flat_1 (c:=[.string (mkS (numName 114 0)),.bool spAny.any,.slice none spAny.or_.length 0,.string (mkS tStar)]) bO'
   have hnO:RowL needT 45 HO (some ⟨HN.size,0,none⟩) [rgRoot]:=(own_litE needT_ok.ok bO (LstV.one (c:=[.string (mkS (numName 114 0)),.bool spAny.any,.slice none spAny.or_.length 0,.string (mkS tStar)]) ⟨none,0,rfl,Nat.le_refl _,RowL.nil _ _ _ _⟩) (Nat.le_refl _) (by simp)).rowL
   refine(ring_fits hk1 hk2 hbk hPl hfit aX _ cX hrn _ 1 pa pc HO ((hg.ext hxF).ext xO) (hrE.ext row_ok (hxN.trans xO)) (hnO.to fun _ _=>needT_E) (hP.ext pin_ok xO)).mono ?_
   rintro _ HP ⟨rfl,hxP⟩
   have hxFF:=hxF.trans (xO.trans hxP)
   ((conv=>whnf);repeat(any_goals((first|refine Vc.stp ?_)<;>(intros;(conv=>whnf)))))
   exact⟨rfl,hxFF⟩
end Go.Proofs.YtjdieklgoepdjaaGreatDoor
